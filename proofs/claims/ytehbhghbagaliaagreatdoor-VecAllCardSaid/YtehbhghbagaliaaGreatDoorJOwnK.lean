/- A row of one's own of which every cell is known to be of a kind: appending to it; what lies elsewhere stays. No program in sight. -/
import Derived.Test.YtehbhghbagaliaaGreatDoorJMemA
import Derived.Maps.AppendAt
import Derived.Deep.RegionLaw
set_option linter.unusedVariables false
set_option linter.unusedSimpArgs false
namespace Vic
open Go Go.RowKit
def OwnK (Kd:Value→Prop) (w:World) (base:Nat) (e:TypeId) (size:Nat) (v:Value) (n:Nat) (xs:List Value):Prop:=
 xs.length=n*size ∧
 ((v=.slice none 0 0∧n=0) ∨
  ∃ g cap cur,v=.slice (some ⟨g,0,none⟩) n cap∧base≤g∧w.heap[g]?=some (.cells cur e (0,0))∧n≤cap∧cap≤maxLen∧cur.size=cap*size∧cur.toList.take (n*size)=xs∧∀ u∈cur,Kd u)
theorem OwnK.own {Kd:Value→Prop}{w:World}{base:Nat}{e:TypeId}{size:Nat}{v:Value}{n:Nat}{xs:List Value}(h:OwnK Kd w base e size v n xs):w.ownsRow base e size v n xs:=by
 obtain ⟨h1,h2|⟨g,cap,cur,a1,a2,a3,a4,a5,a6,a7,_⟩⟩:=h
 ·exact ⟨h1,.inl h2⟩
 ·exact ⟨h1,.inr ⟨g,cap,cur,a1,a2,a3,a4,a5,a6,a7⟩⟩
theorem OwnK.nil_ (Kd:Value→Prop) (w:World) (base:Nat) (e:TypeId) (size:Nat):OwnK Kd w base e size (.slice none 0 0) 0 []:=⟨by simp,.inl ⟨rfl,rfl⟩⟩
theorem OwnK.stay {Kd:Value→Prop}{w w':World}{base:Nat}{e:TypeId}{size:Nat}{v:Value}{n:Nat}{xs:List Value}(h:OwnK Kd w base e size v n xs) (hs:∀ g,v.ownBlock=some g→w'.heap[g]?=w.heap[g]?):OwnK Kd w' base e size v n xs:=by
 obtain ⟨h1,h2|⟨g,cap,cur,rfl,a2,a3,a4⟩⟩:=h
 ·exact ⟨h1,.inl h2⟩
 ·exact ⟨h1,.inr ⟨g,cap,cur,rfl,a2,by rw[hs g rfl];exact a3,a4⟩⟩
theorem OwnK.lt {Kd:Value→Prop}{w:World}{base:Nat}{e:TypeId}{size:Nat}{v:Value}{n:Nat}{xs:List Value}(h:OwnK Kd w base e size v n xs) {g:Nat}(hg:v.ownBlock=some g):base≤g∧g<w.heap.size:=by
 obtain ⟨h1,⟨rfl,_⟩|⟨g',cap,cur,rfl,a2,a3,a4⟩⟩:=h
 ·cases hg
 ·injection hg with hg
  subst hg
  refine ⟨a2,?_⟩
  rcases Nat.lt_or_ge g' w.heap.size with h|h
  ·exact h
  ·rw[Array.getElem?_eq_none h]at a3;cases a3
theorem OwnK.keep {Kd:Value→Prop}{w w':World}{base:Nat}{e:TypeId}{size:Nat}{v:Value}{n:Nat}{xs:List Value}(h:OwnK Kd w base e size v n xs) (hb:Below w.heap.size w w'):OwnK Kd w' base e size v n xs:=
 h.stay fun g hg=>hb.block g (h.lt hg).2
theorem OwnK.kind {Kd:Value→Prop}{w:World}{base:Nat}{e:TypeId}{size:Nat}{v:Value}{n:Nat}{xs:List Value}(h:OwnK Kd w base e size v n xs) {g:Nat}(hg:v.ownBlock=some g) {o:Nat}{u:Value}(hc:w.cell? ⟨g,o,none⟩=some u):Kd u:=by
 obtain ⟨h1,⟨rfl,_⟩|⟨g',cap,cur,rfl,a2,a3,a4,a5,a6,a7,a8⟩⟩:=h
 ·cases hg
 ·cases hg
  simp only[World.cell?,a3]at hc
  exact a8 u (Array.mem_of_getElem? hc)
theorem OwnK.shape {Kd:Value→Prop}{w:World}{base:Nat}{e:TypeId}{size:Nat}{v:Value}{n:Nat}{xs:List Value}(h:OwnK Kd w base e size v n xs) (h0:0<n):∃ g cap,v=.slice (some ⟨g,0,none⟩) n cap:=by
 obtain ⟨_,⟨_,h1⟩|⟨g,cap,cur,rfl,_⟩⟩:=h
 ·omega
 ·exact ⟨g,cap,rfl⟩
theorem mem_zeroCells {z:Array Value}{n:Nat}{u:Value}(h:u∈Builtin.zeroCells z n):u∈z:=by
 unfold Builtin.zeroCells at h
 obtain ⟨i,hi,rfl⟩:=Array.mem_map.1 h
 have hz:0<z.size:=by
  rcases Nat.eq_zero_or_pos z.size with h0|h0
  ·rw[h0]at hi;simp at hi
  ·exact h0
 have hlt:i % z.size<z.size:=Nat.mod_lt _ hz
 rw[getElem!_pos z (i % z.size) hlt]
 exact Array.getElem_mem hlt
theorem OwnK.append {P:Program}{Kd:Value→Prop}{w:World}{base:Nat}{t ty e:TypeId}{i:TypeInfo}{z:Value}{size:Nat}(ht:P.underlying t=some (.slice e)) (hi:P.info? e=some i) (hz:i.zero=some z)
 (hsize:i.size=size) (hzs:z.cells.size=size) (hsz:0<size)
 {v:Value}{n:Nat}{xs:List Value}(hown:OwnK Kd w base e size v n xs)
 (a:Addr) (m c:Nat) (news:List Value) (hl:news.length=m*size) (hnews:∀ j u,news[j]?=some u→w.cell? (a.add j)=some u) (h1:∀ u∈news,u.oneCell'=true)
 (hk:∀ u∈news,Kd u) (hkz:∀ u∈z.cells,Kd u) (h0:0<m)
 (h63:n+m≤maxLen) (hbytes:(n+m)*i.bytes≤140737488355328) (hbase:base≤w.heap.size) :
 ∃ v' w',(Builtin.append_ #[t,t] ty #[v,.slice (some a) m c]).run P w=.ok v' w'∧OwnK Kd w' base e size v' (n+m) (xs ++ news)∧w.grownBy w' v.ownBlock∧(v'.ownBlock=v.ownBlock∨v'.ownBlock=some w.heap.size):=by
 subst hsize
 have hsmall:n+m≤9223372036854775807:=by simp only[maxLen]at h63;omega
 have hlen:(xs ++ news).length=(n+m)*i.size:=by rw[List.length_append,hown.1,hl,Nat.add_mul]
 have grown:∀ (old:Nat),(∀ u∈xs,Kd u)→∀ (row:Option Nat),
  OwnK Kd (w.drew.alloc (.cells (xs.toArray ++ news.toArray ++ Builtin.zeroCells z.cells (grownCap w (n+m) old e - (n+m))) e)) base e i.size
   (.slice (some ⟨w.heap.size,0,none⟩) (n+m) (grownCap w (n+m) old e)) (n+m) (xs ++ news) ∧
  w.grownBy (w.drew.alloc (.cells (xs.toArray ++ news.toArray ++ Builtin.zeroCells z.cells (grownCap w (n+m) old e - (n+m))) e)) row:=by
  intro old hxs row
  have hge:=grownCap_ge w (n+m) old e
  have hcm:grownCap w (n+m) old e≤maxLen:=grownCap_le_maxLen w (n+m) old e h63
  refine ⟨⟨hlen,.inr ⟨w.heap.size,_,_,rfl,hbase,heap_alloc_new w.drew _,hge,hcm,?_,?_,?_⟩⟩,⟨rfl,rfl,rfl,by simp,fun k hk _=>Below.heap_alloc w.drew _ k hk⟩⟩
  ·simp only[Array.size_append,List.size_toArray,size_zeroCells,hzs,hown.1,hl,← Nat.add_mul]
   congr 1
   omega
  ·simp only[Array.toList_append,List.append_assoc]
   rw[← List.append_assoc,← hlen]
   exact List.take_left
  ·intro u hu
   rcases Array.mem_append.1 hu with hu|hu
   ·rcases Array.mem_append.1 hu with hu|hu
    ·exact hxs u (by simpa using hu)
    ·exact hk u (by simpa using hu)
   ·exact hkz u (mem_zeroCells hu)
 rcases hown.2 with ⟨rfl,rfl⟩|⟨g,cap,cur,rfl,hbg,hg,hnc,hcm,hcs,htake,hkd⟩
 ·have hx:xs = []:=List.eq_nil_of_length_eq_zero (by simpa using hown.1)
  subst hx
  have hr:=run_append_nil (P:=P) w t ty e i z ht hi hz a m c news hl hnews (by omega) (by omega) (by have hb:=hbytes;simp only[Nat.zero_add]at hb;omega)
  have hgr:=grown 0 (by simp) (Value.ownBlock (.slice none 0 0))
  simp only[Nat.zero_add,List.nil_append,Array.empty_append]at hgr ⊢
  exact ⟨_,_,hr,hgr.1,hgr.2,Or.inr rfl⟩
 ·have hxk:∀ u∈xs,Kd u:=fun u hu=>hkd u (by
   rw[← htake]at hu
   have:=List.mem_of_mem_take hu
   simpa using this)
  by_cases hroom:n+m≤cap
  ·have hfit:n*i.size+news.length≤cur.size:=by rw[hl,hcs,← Nat.add_mul];exact Nat.mul_le_mul_right _ hroom
   have hr:=run_append_room (P:=P) w t ty e i ht hi g n cap cur hg a m c news hl hnews h1 hroom hfit
   refine ⟨_,_,hr,⟨hlen,.inr ⟨g,cap,_,rfl,hbg,setRow_heap w g cur _ e _ hg,hroom,hcm,?_,?_,?_⟩⟩,⟨rfl,rfl,rfl,by simp,fun k _ hk=>setRow_other w g k _ (fun e=>hk (by simp[Value.ownBlock,e]))⟩,Or.inl rfl⟩
   ·simp only[List.size_toArray,List.length_append,List.length_take,List.length_drop,Array.length_toList]
    omega
   ·rw[htake,← hlen]
    show List.take (xs ++ news).length (xs ++ news ++ _)=_
    exact List.take_left
   ·intro u hu
    have hu':u∈cur.toList.take (n*i.size) ++ news ++ cur.toList.drop (n*i.size+news.length):=by simpa using hu
    rcases List.mem_append.1 hu' with hu|hu
    ·rcases List.mem_append.1 hu with hu|hu
     ·exact hkd u (by have:=List.mem_of_mem_take hu;simpa using this)
     ·exact hk u hu
    ·exact hkd u (by have:=List.mem_of_mem_drop hu;simpa using this)
  ·have holds:∀ j u,xs[j]?=some u→w.cell? ((⟨g,0,none⟩:Addr).add j)=some u:=hown.own.cells (g:=g) rfl
   have hr:=run_append_grow (P:=P) w t ty e i z ht hi hz ⟨g,0,none⟩ n cap xs hown.1 holds a m c news hl hnews (by omega) (by omega) (growslice_fits (by omega) hbytes)
   have hgr:=grown cap hxk (Value.ownBlock (.slice (some ⟨g,0,none⟩) n cap))
   exact ⟨_,_,hr,hgr.1,hgr.2,Or.inr rfl⟩
theorem wpList_append_ownK {P:Program}{Kd:Value→Prop}{ops:Array Oper}{rest:List Oper}{o:Oper}{a:Act}{w:World}{Q:Exit→Act→World→Prop}(hgd:o.guard=none) (s x:Operand) (t:TypeId)
 (ho:o.op=.call { callee:=.builtin .append,args:=#[s,x],argTypes:=#[t,t] }) (base:Nat) (e:TypeId) (i:TypeInfo) (z:Value) (size:Nat) (ht:P.underlying t=some (.slice e)) (hi:P.info? e=some i) (hz:i.zero=some z)
 (hsize:i.size=size) (hzs:z.cells.size=size) (hsz:0<size) (v:Value) (n:Nat) (xs:List Value) (hs:a.eval s=v) (hown:OwnK Kd w base e size v n xs)
 (ad:Addr) (m c:Nat) (news:List Value) (hx:a.eval x=.slice (some ad) m c) (hl:news.length=m*size) (hnews:∀ j u,news[j]?=some u→w.cell? (ad.add j)=some u) (h1:∀ u∈news,u.oneCell'=true)
 (hk:∀ u∈news,Kd u) (hkz:∀ u∈z.cells,Kd u) (h0:0<m) (h63:n+m≤maxLen) (hbytes:(n+m)*i.bytes≤140737488355328) (hbase:base≤w.heap.size)
 (h:∀ v' w',OwnK Kd w' base e size v' (n+m) (xs ++ news)→w.grownBy w' v.ownBlock→(v'.ownBlock=v.ownBlock∨v'.ownBlock=some w.heap.size)→wpList P ops Q rest (a.put o.dst v') w'):wpList P ops Q (o :: rest) a w:=by
 refine wpList_plain hgd fun K hK=>?_
 obtain ⟨v',w',hrun,h2,h3,h4⟩:=OwnK.append (P:=P) (ty:=o.type) ht hi hz hsize hzs hsz hown ad m c news hl hnews h1 hk hkz h0 h63 hbytes hbase
 unfold Oper.wp execOp
 simp only[ho,resolve,invoke,builtin,Sem.run_bind,Sem.run_pure,Result.andThen_ok,List.map_toArray,List.map_cons,List.map_nil,hs,hx,hrun]
 exact hK _ _ (h v' w' h2 h3 h4)
theorem step_append_ownK {P:Program}{Kd:Value→Prop}{ops:Array Oper}{o:Oper}{a:Act}{w:World}{K:Act→World→Prop}{Q:Exit→Act→World→Prop}{E:Prop}(hgd:o.guard=none) (s x:Operand) (t:TypeId)
 (ho:o.op=.call { callee:=.builtin .append,args:=#[s,x],argTypes:=#[t,t] }) (base:Nat) (e:TypeId) (i:TypeInfo) (z:Value) (size:Nat) (ht:P.underlying t=some (.slice e)) (hi:P.info? e=some i) (hz:i.zero=some z)
 (hsize:i.size=size) (hzs:z.cells.size=size) (hsz:0<size) (v:Value) (n:Nat) (xs:List Value) (hs:a.eval s=v) (hown:OwnK Kd w base e size v n xs)
 (ad:Addr) (m c:Nat) (news:List Value) (hx:a.eval x=.slice (some ad) m c) (hl:news.length=m*size) (hnews:∀ j u,news[j]?=some u→w.cell? (ad.add j)=some u) (h1:∀ u∈news,u.oneCell'=true)
 (hk:∀ u∈news,Kd u) (hkz:∀ u∈z.cells,Kd u) (h0:0<m) (h63:n+m≤maxLen) (hbytes:(n+m)*i.bytes≤140737488355328) (hbase:base≤w.heap.size)
 (h:∀ v' w',OwnK Kd w' base e size v' (n+m) (xs ++ news)→w.grownBy w' v.ownBlock→(v'.ownBlock=v.ownBlock∨v'.ownBlock=some w.heap.size)→K (a.put o.dst v') w') :
 if Region.wanted o (yielded ops a.tmps)=true then Oper.wp P o a w K Q else E:=by
 have hw:Region.wanted o (yielded ops a.tmps)=true:=by simp[Region.wanted,hgd]
 rw[if_pos hw]
 obtain ⟨v',w',hrun,h2,h3,h4⟩:=OwnK.append (P:=P) (ty:=o.type) ht hi hz hsize hzs hsz hown ad m c news hl hnews h1 hk hkz h0 h63 hbytes hbase
 unfold Oper.wp execOp
 simp only[ho,resolve,invoke,builtin,Sem.run_bind,Sem.run_pure,Result.andThen_ok,List.map_toArray,List.map_cons,List.map_nil,hs,hx,hrun]
 exact h v' w' h2 h3 h4
end Vic
