/- Package core's reader: a line of COLUMNS. -/
import Derived.Test.YtjipjfoambbofaaGreatDoorKbb
import Derived.Deep.DeepCutAuto
import Derived.Deep.CutBlock
import Derived.StillTailTactics
set_option linter.unusedVariables false
set_option linter.unusedSimpArgs false
section
namespace Vic
open Go Go.RowKit
def CSt.addCol (st:CSt) (s:Txt):CSt:={ st with cols:=(s,(st.c.cols.length:Nat)) :: st.cols,c:={ st.c with cols:=st.c.cols ++ [(⟨s,[48],[],[48],st.integer⟩:ColM)] },seen:=[] }
theorem CSt.addCol_good {st:CSt}(h:st.Good) (s:Txt):(st.addCol s).Good:=by
 refine ⟨h.1,fun x i hx=>?_⟩
 have hl:(st.addCol s).c.cols.length=st.c.cols.length+1:=by simp[CSt.addCol]
 rw[hl]
 have e:atT (st.addCol s).cols x=if s=x then some (st.c.cols.length:Int)else atT st.cols x:=by
  unfold CSt.addCol atT
  by_cases hs:s=x
  ·simp[hs]
  ·have:(s == x)=false:=beq_eq_false_iff_ne.2 hs
   simp[List.find?_cons,hs,this]
 rw[e]at hx
 split at hx
 ·injection hx with hx;omega
 ·have:=h.2 x i hx;omega
theorem one_col {w:World}{b:Nat}{t:TypeId}{x1 x2 x3 x4 x5:Value}(h:Row w b t #[x1,x2,x3,x4,x5]) (j:Nat) (u:Value) (hj : [x1,x2,x3,x4,x5][j]?=some u):w.cell? ((⟨b,0,none⟩:Addr).add j)=some u:=by
 rcases j with _|_|_|_|_|j<;>simp at hj<;>subst hj
 ·exact h.cell 0
 ·exact h.cell 1
 ·exact h.cell 2
 ·exact h.cell 3
 ·exact h.cell 4
theorem RD.addCol {B:Nat}{w:World}{r:Nat}{st:CSt}{rv cv lv:Value}{mr mc ms:Nat}{rvs:List RowV}(h:RD B w r st rv cv lv mr mc ms rvs) {w1:World}{v':Value}{x:ColM}
 (ho:Own w1 B 34 5 v' (st.c.cols.length+1) (st.c.cols.flatMap encCol ++ encCol x)) (hg:w.grownBy w1 cv.ownBlock) :
 RD B (w1.setCell ⟨r,3,none⟩ v') r { st with c:={ st.c with cols:=st.c.cols ++ [x] } } rv v' lv mr mc ms rvs:=by
 have hr:=h.cols
 have hblk1:Row w1 r 91 #[.string ⟨st.c.name.toArray⟩,.string ⟨st.c.obj.toArray⟩,rv,cv,.int .i64 st.at_,.map (some mr),.map (some mc),.map (some ms),.bool st.integer,lv,.int .i64 st.e]:=(grown_other hr hg h.blk (by decide)).trans h.blk
 have hset:∀ g,g≠r→(w1.setCell ⟨r,3,none⟩ v').heap[g]?=w1.heap[g]?:=set_other w1 r 3 v'
 have hmap:∀ {m:Nat}{f:List UInt8→Option Value},StrMap w m f→StrMap (w1.setCell ⟨r,3,none⟩ v') m f:=fun hm=>(grown_map hr hg hm).stay (hset _ fun e=>hm.ne h.blk e.symm)
 have hty:∀ {g:Nat}{cs:Array Value}{t:TypeId}{fr:Nat × Nat},w1.heap[g]?=some (.cells cs t fr)→t≠91→(w1.setCell ⟨r,3,none⟩ v').heap[g]?=w1.heap[g]?:=fun hc ht=>hset _ fun e=>by
  subst e
  rw[hblk1]at hc
  injection hc with hc
  injection hc with _ h2 _
  exact ht h2.symm
 refine ⟨?_,h.rB,h.mrB,h.mcB,h.msB,h.mrc,h.mrs,h.mcs,hmap h.mapR,hmap h.mapC,hmap h.mapS,?_,h.rowsEq,?_,?_⟩
 ·have:=hblk1.set 3 v';simpa using this
 ·have h1:=h.rows.stay (w':=w1) fun g cur hc=>by rcases hc with hc|hc<;>exact grown_other hr hg hc (by decide)
  exact h1.stay fun g cur hc=>by rcases hc with hc|hc<;>exact hty hc (by decide)
 ·show Own _ B 34 5 _ (st.c.cols ++ [x]).length ((st.c.cols ++ [x]).flatMap encCol)
  have e:(st.c.cols ++ [x]).flatMap encCol=st.c.cols.flatMap encCol ++ encCol x:=by simp
  rw[e,List.length_append,List.length_singleton]
  exact ho.stay fun g hg'=>by obtain ⟨cur,hc⟩:=ho.typed hg';exact hty hc (by decide)
 ·have h1:=grown_words hr hg h.words
  exact h1.imp fun g o s _ hs=>⟨hs.1,by
   show (w1.setCell ⟨r,3,none⟩ v').cell? _=_
   rw[cell_same (hset g (by have:=hs.1;have:=h.rB;omega))]
   exact hs.2.1,hs.2.2⟩
end Vic
namespace Go.Proofs.YtjipjfoambbofaaGreatDoor
open Go.RowKit Vic
theorem info_Col0:(Tryz.prog.info? 34).map (fun i=>(i.zero,i.size,i.bytes))=some (some (.agg #[.string ⟨#[]⟩,.string ⟨#[]⟩,.string ⟨#[]⟩,.string ⟨#[]⟩,.bool false]),5,72):=by kernel_rfl
theorem info_Col:∃ i:TypeInfo,Tryz.prog.info? 34=some i∧i.zero=some (.agg #[.string ⟨#[]⟩,.string ⟨#[]⟩,.string ⟨#[]⟩,.string ⟨#[]⟩,.bool false])∧i.size=5∧i.bytes=72:=by
 have h:=info_Col0
 cases hi:Tryz.prog.info? 34 with
 | none=>rw[hi]at h;simp at h
 | some i=>rw[hi]at h;simp at h;exact ⟨i,rfl,h.1,h.2.1,h.2.2⟩
theorem enter_column:∀ args w,(callFunc 148 args).run Tryz.prog w=.ok (.enter 148 args) w:=fun _ _=>by kernel_rfl
theorem column_pairs {B:Nat}{w:World}{r bx:Nat}{st:CSt}(h:CR B w r st) (hB:B≤w.heap.size) (hT:∀ w',Below B w w'→TabE w') (hgood:st.Good) {nf:Nat}(hfat:st.Fat nf) (hnf:nf+2≤1000000000) (hat:st.at_=3) (hc0:0<st.c.cols.length) (hc1:st.c.cols.length≤1000000000) (hb:Boxed bx r w) :
 Calls Tryz.prog 147 #[.pointer (some ⟨r,0,none⟩),.func (.func 148) #[] #[.pointer (some ⟨bx,0,none⟩)]] w (Turns B r (.tuple #[]) st.pairs w):=
 core_pairs h (hT w (Below.refl _ _)) hB hT hgood hfat (Boxed bx r) hb (fun W W' h1 h2=>h1.fr h2) enter_column fun W sk row q x hc hp hbl hx hq e1 _ e3 hf hr h0=>
  core_column_c1 hc (Nat.le_trans hB hbl.size) (hT W hbl).tab hp row q x hx hq hr (e1.trans hat) (m:=st.c.cols.length - 1) (by omega) (by omega) (hf.mono hnf)
abbrev vcolm7_0:Oper:={ dst:=some 49,op:=Go.Op.load 87 (Go.Operand.tmp 1),type:=87,pos:="read.go:126",after:=#[],guard:=none }
abbrev vcolm7_1:Oper:={ dst:=some 50,op:=Go.Op.move (Go.Operand.tmp 4),type:=4,pos:="read.go:126",after:=#[],guard:=none }
abbrev vcolm7_2:Oper:={ dst:=some 51,op:=Go.Op.move (Go.Operand.tmp 50),type:=4,pos:="read.go:126",after:=#[{ on:=1,ground:=Go.Ground.data }],guard:=none }
abbrev vcolm7_3:Oper:={ dst:=some 52,op:=Go.Op.move (Go.Operand.tmp 2),type:=9,pos:="read.go:126",after:=#[{ on:=2,ground:=Go.Ground.guard }],guard:=some (2,false) }
abbrev vcolm7_4:Oper:={ dst:=some 53,op:=Go.Op.call { callee:=Go.Callee.value (Go.Operand.func 84),args:=#[Go.Operand.tmp 52],argTypes:=#[9] },type:=4,pos:="read.go:126",after:=#[{ on:=3,ground:=Go.Ground.data },{ on:=2,ground:=Go.Ground.chain },{ on:=2,ground:=Go.Ground.guard }],guard:=some (2,false) }
abbrev vcolm7_5:Oper:={ dst:=some 54,op:=Go.Op.unOp Go.UnOp.not 4 (Go.Operand.tmp 53),type:=4,pos:="read.go:126",after:=#[{ on:=4,ground:=Go.Ground.data },{ on:=2,ground:=Go.Ground.guard }],guard:=some (2,false) }
abbrev vcolm7_6:Oper:={ dst:=some 55,op:=Go.Op.pick (Go.Operand.tmp 51) (Go.Operand.const (Go.Value.bool true)) (Go.Operand.tmp 54),type:=4,pos:="read.go:126",after:=#[{ on:=2,ground:=Go.Ground.data },{ on:=5,ground:=Go.Ground.data }],guard:=none }
abbrev vcolm7_7:Oper:={ dst:=some 56,op:=Go.Op.move (Go.Operand.tmp 55),type:=4,pos:="read.go:126",after:=#[{ on:=6,ground:=Go.Ground.data },{ on:=4,ground:=Go.Ground.chain }],guard:=none }
abbrev vcolm7_8:Oper:={ dst:=some 57,op:=Go.Op.move (Go.Operand.tmp 2),type:=9,pos:="read.go:126",after:=#[{ on:=7,ground:=Go.Ground.guard }],guard:=some (7,false) }
abbrev vcolm7_9:Oper:={ dst:=some 58,op:=Go.Op.binOp Go.BinOp.eql 9 (Go.Operand.tmp 57) (Go.Operand.const (Go.Value.string { data:=#[82,72,83] })) 9,type:=4,pos:="read.go:126",after:=#[{ on:=8,ground:=Go.Ground.data },{ on:=7,ground:=Go.Ground.guard }],guard:=some (7,false) }
abbrev vcolm7_10:Oper:={ dst:=some 59,op:=Go.Op.pick (Go.Operand.tmp 56) (Go.Operand.const (Go.Value.bool true)) (Go.Operand.tmp 58),type:=4,pos:="read.go:126",after:=#[{ on:=7,ground:=Go.Ground.data },{ on:=9,ground:=Go.Ground.data }],guard:=none }
abbrev vcolm7_11:Oper:={ dst:=some 60,op:=Go.Op.call { callee:=Go.Callee.value (Go.Operand.func 80),args:=#[Go.Operand.tmp 49,Go.Operand.tmp 59,Go.Operand.const (Go.Value.int Go.IntKind.i64 4)],argTypes:=#[87,4,30] },type:=0,pos:="read.go:126",after:=#[{ on:=0,ground:=Go.Ground.data },{ on:=10,ground:=Go.Ground.data },{ on:=7,ground:=Go.Ground.chain }],guard:=none }
abbrev vcolm11_0:Oper:={ dst:=some 86,op:=Go.Op.load 87 (Go.Operand.tmp 1),type:=87,pos:="read.go:132",after:=#[],guard:=none }
abbrev vcolm11_1:Oper:={ dst:=some 87,op:=Go.Op.load 87 (Go.Operand.tmp 1),type:=87,pos:="read.go:132",after:=#[],guard:=none }
abbrev vcolm11_2:Oper:={ dst:=some 88,op:=Go.Op.nilCheck (Go.Operand.tmp 87),type:=0,pos:="read.go:132",after:=#[{ on:=1,ground:=Go.Ground.data }],guard:=none }
abbrev vcolm11_3:Oper:={ dst:=some 89,op:=Go.Op.fieldAddr 91 (Go.Operand.tmp 88) 0,type:=0,pos:="read.go:132",after:=#[{ on:=2,ground:=Go.Ground.data }],guard:=none }
abbrev vcolm11_4:Oper:={ dst:=some 90,op:=Go.Op.fieldAddr 29 (Go.Operand.tmp 89) 3,type:=0,pos:="read.go:132",after:=#[{ on:=3,ground:=Go.Ground.data }],guard:=none }
abbrev vcolm11_5:Oper:={ dst:=some 91,op:=Go.Op.load 27 (Go.Operand.tmp 90),type:=27,pos:="read.go:132",after:=#[{ on:=4,ground:=Go.Ground.data }],guard:=none }
abbrev vcolm11_6:Oper:={ dst:=some 92,op:=Go.Op.move (Go.Operand.tmp 2),type:=9,pos:="read.go:132",after:=#[],guard:=none }
abbrev vcolm11_7:Oper:={ dst:=some 93,op:=Go.Op.load 87 (Go.Operand.tmp 1),type:=87,pos:="read.go:132",after:=#[],guard:=none }
abbrev vcolm11_8:Oper:={ dst:=some 94,op:=Go.Op.nilCheck (Go.Operand.tmp 93),type:=0,pos:="read.go:132",after:=#[{ on:=7,ground:=Go.Ground.data }],guard:=none }
abbrev vcolm11_9:Oper:={ dst:=some 95,op:=Go.Op.fieldAddr 91 (Go.Operand.tmp 94) 5,type:=0,pos:="read.go:132",after:=#[{ on:=8,ground:=Go.Ground.data }],guard:=none }
abbrev vcolm11_10:Oper:={ dst:=some 96,op:=Go.Op.load 4 (Go.Operand.tmp 95),type:=4,pos:="read.go:132",after:=#[{ on:=9,ground:=Go.Ground.data }],guard:=none }
abbrev vcolm11_11:Oper:={ dst:=some 97,op:=Go.Op.build 34 #[(0,Go.Operand.tmp 92),(1,Go.Operand.const (Go.Value.string { data:=#[48] })),(3,Go.Operand.const (Go.Value.string { data:=#[48] })),(4,Go.Operand.tmp 96)],type:=34,pos:="read.go:132",after:=#[{ on:=6,ground:=Go.Ground.data },{ on:=10,ground:=Go.Ground.data }],guard:=none }
abbrev vcolm11_12:Oper:={ dst:=some 98,op:=Go.Op.buildSlice 27 1 #[(0,Go.Operand.tmp 97)],type:=27,pos:="read.go:132",after:=#[{ on:=11,ground:=Go.Ground.data }],guard:=none }
abbrev vcolm11_13:Oper:={ dst:=some 99,op:=Go.Op.call { callee:=Go.Callee.builtin Go.Builtin.append,args:=#[Go.Operand.tmp 91,Go.Operand.tmp 98],argTypes:=#[27,27] },type:=27,pos:="read.go:132",after:=#[{ on:=5,ground:=Go.Ground.data },{ on:=12,ground:=Go.Ground.data }],guard:=none }
abbrev vcolm11_14:Oper:={ dst:=some 100,op:=Go.Op.nilCheck (Go.Operand.tmp 86),type:=0,pos:="read.go:132",after:=#[{ on:=0,ground:=Go.Ground.data },{ on:=0,ground:=Go.Ground.phase },{ on:=1,ground:=Go.Ground.phase },{ on:=2,ground:=Go.Ground.phase },{ on:=3,ground:=Go.Ground.phase },{ on:=4,ground:=Go.Ground.phase },{ on:=5,ground:=Go.Ground.phase },{ on:=6,ground:=Go.Ground.phase },{ on:=7,ground:=Go.Ground.phase },{ on:=8,ground:=Go.Ground.phase },{ on:=9,ground:=Go.Ground.phase },{ on:=10,ground:=Go.Ground.phase },{ on:=11,ground:=Go.Ground.phase },{ on:=12,ground:=Go.Ground.phase },{ on:=13,ground:=Go.Ground.phase }],guard:=none }
abbrev vcolm11_15:Oper:={ dst:=some 101,op:=Go.Op.fieldAddr 91 (Go.Operand.tmp 100) 0,type:=0,pos:="read.go:132",after:=#[{ on:=14,ground:=Go.Ground.data },{ on:=0,ground:=Go.Ground.phase },{ on:=1,ground:=Go.Ground.phase },{ on:=2,ground:=Go.Ground.phase },{ on:=3,ground:=Go.Ground.phase },{ on:=4,ground:=Go.Ground.phase },{ on:=5,ground:=Go.Ground.phase },{ on:=6,ground:=Go.Ground.phase },{ on:=7,ground:=Go.Ground.phase },{ on:=8,ground:=Go.Ground.phase },{ on:=9,ground:=Go.Ground.phase },{ on:=10,ground:=Go.Ground.phase },{ on:=11,ground:=Go.Ground.phase },{ on:=12,ground:=Go.Ground.phase },{ on:=13,ground:=Go.Ground.phase }],guard:=none }
abbrev vcolm11_16:Oper:={ dst:=some 102,op:=Go.Op.fieldAddr 29 (Go.Operand.tmp 101) 3,type:=0,pos:="read.go:132",after:=#[{ on:=15,ground:=Go.Ground.data },{ on:=0,ground:=Go.Ground.phase },{ on:=1,ground:=Go.Ground.phase },{ on:=2,ground:=Go.Ground.phase },{ on:=3,ground:=Go.Ground.phase },{ on:=4,ground:=Go.Ground.phase },{ on:=5,ground:=Go.Ground.phase },{ on:=6,ground:=Go.Ground.phase },{ on:=7,ground:=Go.Ground.phase },{ on:=8,ground:=Go.Ground.phase },{ on:=9,ground:=Go.Ground.phase },{ on:=10,ground:=Go.Ground.phase },{ on:=11,ground:=Go.Ground.phase },{ on:=12,ground:=Go.Ground.phase },{ on:=13,ground:=Go.Ground.phase }],guard:=none }
abbrev vcolm11_17:Oper:={ dst:=none,op:=Go.Op.store 27 (Go.Operand.tmp 102) (Go.Operand.tmp 99),type:=0,pos:="read.go:132",after:=#[{ on:=16,ground:=Go.Ground.data },{ on:=13,ground:=Go.Ground.data },{ on:=13,ground:=Go.Ground.chain },{ on:=0,ground:=Go.Ground.phase },{ on:=1,ground:=Go.Ground.phase },{ on:=2,ground:=Go.Ground.phase },{ on:=3,ground:=Go.Ground.phase },{ on:=4,ground:=Go.Ground.phase },{ on:=5,ground:=Go.Ground.phase },{ on:=6,ground:=Go.Ground.phase },{ on:=7,ground:=Go.Ground.phase },{ on:=8,ground:=Go.Ground.phase },{ on:=9,ground:=Go.Ground.phase },{ on:=10,ground:=Go.Ground.phase },{ on:=11,ground:=Go.Ground.phase },{ on:=12,ground:=Go.Ground.phase },{ on:=13,ground:=Go.Ground.phase }],guard:=none }
set_option maxRecDepth 100000 in
set_option maxHeartbeats 8000000 in
theorem core_column {B:Nat}{w:World}{r:Nat}{st:CSt}(h:CR B w r st) (hB:B≤w.heap.size) (hT:∀ w',Below B w w'→TabE w') (hgood:st.Good) {nf:Nat}(hfat:st.Fat nf) (hnf:nf+2≤1000000000) (hat:st.at_=3) (hcl:st.c.cols.length≤1000000) :
 Calls Tryz.prog 77 #[.pointer (some ⟨r,0,none⟩)] w (Turns B r (.tuple #[]) st.column w):=by
 unfold Turns
 have hr:=h.base
 have hrl:=h.lt
 obtain ⟨wa,hwa⟩:∃ X,X=w.alloc (.cells #[.pointer (some ⟨r,0,none⟩)] 87):=⟨_,rfl⟩
 have hba:Below w.heap.size w wa:=by rw[hwa];exact (Below.refl _ _).alloc (Nat.le_refl _) _
 have hxa:Boxed w.heap.size r wa:=by rw[hwa];exact Row.new _ _ _
 obtain ⟨bx,hbx⟩:∃ X,X=w.heap.size:=⟨_,rfl⟩
 have hsa:wa.heap.size=bx+1:=by rw[hwa,hbx];simp
 have hwa2:w.alloc (.cells #[.pointer (some ⟨r,0,none⟩)] 87)=wa:=hwa.symm
 obtain ⟨hk,C1⟩:=many35 (h.keep hba)
 obtain ⟨st1,h1⟩:∃ x,x=st.many [3,5]:=⟨_,rfl⟩
 obtain ⟨s,st2,h2⟩:∃ a b,st1.word=(a,b):=⟨_,_,rfl⟩
 obtain ⟨o,ho⟩:∃ x,x=atT st2.cols s:=⟨_,rfl⟩
 obtain ⟨st3,h3⟩:∃ x,x=st2.fails (o.isSome || !nameB s || s == rhsM) 4:=⟨_,rfl⟩
 obtain ⟨st4,h4⟩:∃ x,x=st3.fails (decide ((40:Int)≤(st3.c.cols.length:Nat))) 6:=⟨_,rfl⟩
 have hM:Hid (st.column=if st1.l.length=3∧st1.l[1]?=some markerM then st1.marks else if o=some ((st2.c.cols.length:Int) - 1)then st2.pairs else if st4.e≠0 then st4 else (st4.addCol s).pairs):=by
  show _=_
  unfold CSt.column
  dsimp only
  rw[← h1,h2]
  dsimp only
  rw[← ho,← h3,← h4]
  rfl
 have z1:st1.Same st:=h1▸CSt.fails_same _ _ _
 have z2:st2.Same st:=(by have:=CSt.word_same st1;rw[h2]at this;exact this:st2.Same st1).trans z1
 have z4:st4.Same st:=(h4▸CSt.fails_same _ _ _:st4.Same st3).trans ((h3▸CSt.fails_same _ _ _:st3.Same st2).trans z2)
 have HS2:Hid (st2.Good∧st2.Fat nf∧st2.at_=3):=Lib.hid ⟨z2.good hgood,z2.fat hfat,z2.2.1.trans hat⟩
 have HS4:Hid (st4.Good∧st4.Fat nf∧st4.at_=3):=Lib.hid ⟨z4.good hgood,z4.fat hfat,z4.2.1.trans hat⟩
 have hc2:(st2.c.cols.length:Int)≤1000000:=by rw[z2.1];omega
 have hc3:(st3.c.cols.length:Int)≤1000000:=by rw[show st3.c=st2.c from by rw[h3];exact CSt.fails_c _ _ _,z2.1];omega
 have hc4:(st4.c.cols.length:Int)≤1000000:=by rw[z4.1];omega
 rw[← h1,hsa]at C1
 have HC1:=Lib.hid C1
 have CA:Hid (∀ W,CR B W r st1→Calls Tryz.prog 144 #[.pointer (some ⟨r,0,none⟩)] W (fun e w'=>e=.returned (.string ⟨s.toArray⟩)∧CR B w' r st2∧Only r W w'∧OkWord s)):=Lib.hid fun W hW=>by
  have:=core_word hW
  have hok:=hW.word
  unfold Worded at this
  rw[h2]at this hok
  exact this.mono fun e w' h=>⟨h.1,h.2.1,h.2.2,hok⟩
 have CB:Hid (∀ W b,CR B W r st2→Calls Tryz.prog 80 #[.pointer (some ⟨r,0,none⟩),.bool b,.int .i64 4] W (Noted B r st2 b 4 W)):=Lib.hid fun W b hW=>core_fails hW b 4
 have CC:Hid (∀ W b,CR B W r st3→Calls Tryz.prog 80 #[.pointer (some ⟨r,0,none⟩),.bool b,.int .i64 6] W (Noted B r st3 b 6 W)):=Lib.hid fun W b hW=>core_fails hW b 6
 have H3:=Lib.hid h3
 have H4:=Lib.hid h4
 have HO:=Lib.hid ho
 have hbr:bx≠r:=by omega
 have hk0:Hid (CR B w r st):=Lib.hid h
 have HK:=Lib.hid hk
 have hxc:=hxa.cell
 rw[← hbx]at hxa hxc hba
 have hbx2:w.heap.size=bx:=hbx.symm
 have HXA:=Lib.hid hxa
 clear h h1 h2 h3 h4 ho hk C1 z1 z2 z4 hgood hfat hat hwa hxa hbx hcl
 go_enter Tryz.func77,Tryz.ntmps77
 go_wp2_with fail
 refine HC1.out.mono ?_
 rintro e w1 ⟨rfl,hr1,ho1⟩
 have hx1:Boxed bx r w1:=ho1.boxed hbr ((HXA.out.fr (Fr.below ((Below.refl _ _).alloc (Nat.le_refl _) _))))
 have hxc1:=hx1.cell
 have B1:Hid (Below B w w1∧Fr w w1):=Lib.hid ⟨((hba.mono (by omega)).trans ((Below.refl _ _).alloc (by omega) _)).trans (ho1.below hr),((Fr.below (by rw[hbx2];exact hba)).trans (Fr.below ((Below.refl _ _).alloc (Nat.le_refl _) _))).trans (HK.out.frame fun g _ hg=>ho1.block g hg)⟩
 obtain ⟨A1,c1,hlv,hlc,hlow⟩:=hr1.lv
 have C2:=Lib.hid (CA.out _ hr1)
 have HR1:=Lib.hid hr1
 have HX1:=Lib.hid hx1
 have HLL:Hid (StrsLow B w1 (.slice A1 st1.l.length c1) st1.l):=Lib.hid hlow
 clear hr1 hx1 HC1 CA ho1 hlow hba hxc hwa2
 have hcase:(st1.l.length=3∧Hid (st1.l[1]?=some markerM))∨(Hid (¬ (st1.l.length=3∧st1.l[1]?=some markerM))∧((st1.l.length:Int) == 3)=false)∨(st1.l.length=3∧Hid (¬ (st1.l.length=3∧st1.l[1]?=some markerM))):=by
  by_cases h0:st1.l.length=3
  ·by_cases h1:st1.l[1]?=some markerM
   ·exact .inl ⟨h0,h1⟩
   ·exact .inr (.inr ⟨h0,fun h=>h1 h.2⟩)
  ·exact .inr (.inl ⟨fun h=>h0 h.1,by simp;omega⟩)
 rcases hcase with ⟨hl3,hmk⟩|hcase
 ·obtain ⟨g,o',rfl,hw1⟩:∃ g o',A1=some ⟨g,o',none⟩∧w1.cell? ⟨g,o'+1,none⟩=some (.string ⟨#[39,77,65,82,75,69,82,39]⟩):=by
   obtain ⟨A',c',e,_,h3⟩:=HLL.out
   obtain ⟨g,o',h4,h5⟩:=h3 1 _ hmk.out
   injection e with e1 _ _
   exact ⟨g,o',e1.trans h4,h5.2.1⟩
  have CM:=Lib.hid (core_marks HR1.out hl3)
  unfold Turns at CM
  rw[hl3]at hlv hlc
  have hle:(3:Int)≤(c1:Int):=by omega
  go_wp2_with fail
  refine CM.out.mono ?_
  rintro e w5 ⟨rfl,hr5,hb5,hs5,hf5⟩
  have HR5:=Lib.hid hr5
  have HF5:=Lib.hid hf5
  clear hr5 hf5
  go_wp2_with fail
  refine bodyPost_ret (results_none rfl _ _ _) rfl ?_
  exact ⟨rfl,by rw[hM.out,if_pos ⟨hl3,hmk.out⟩];exact HR5.out,B1.out.1.trans hb5,Nat.le_trans B1.out.1.size hs5,B1.out.2.trans HF5.out⟩
 ·obtain ⟨hnm,hgd⟩:Hid (¬ (st1.l.length=3∧st1.l[1]?=some markerM))∧(((st1.l.length:Int) == 3)=false∨(st1.l.length=3∧∃ g o' s1,A1=some ⟨g,o',none⟩∧w1.cell? ⟨g,o'+1,none⟩=some (.string ⟨List.toArray s1⟩)∧(s1 == [39,77,65,82,75,69,82,39])=false)):=by
   rcases hcase with ⟨h,h1⟩|⟨h0,h⟩
   ·exact ⟨h,.inl h1⟩
   ·obtain ⟨A',c',e,_,h3⟩:=HLL.out
    obtain ⟨g,o',h4,h5⟩:=h3 1 (st1.l[1]'(by omega)) (by simp)
    injection e with e1 _ _
    refine ⟨h,.inr ⟨h0,g,o',_,e1.trans h4,h5.2.1,beq_eq_false_iff_ne.2 fun e=>h.out ⟨h0,?_⟩⟩⟩
    rw[List.getElem?_eq_getElem (by omega),e]
    rfl
  clear hcase
  go_upto_region 2 with fail
  go_cut [22] (fun c wc=>c=.bool false∧wc=w1)
  case first=>
   rcases hgd with hgd|⟨hl3,g,o',s1,rfl,hw1,hne1⟩
   ·go_wp2_with fail
    go_meet
    exact ⟨rfl,rfl⟩
   ·rw[hl3]at hlv hlc
    have hle:(3:Int)≤(c1:Int):=by omega
    go_wp2_with fail
    go_meet
    exact ⟨rfl,rfl⟩
  case rest=>
   obtain ⟨rfl,hwc⟩:=hcut
   obtain rfl:=hwc.symm
   clear hgd
   go_wp2_with fail
   refine C2.out.mono ?_
   rintro e w2 ⟨rfl,hr2,ho2,hok⟩
   have hxc2:=(ho2.boxed hbr HX1.out).cell
   have HX2:Hid (Boxed bx r w2):=Lib.hid (ho2.boxed hbr HX1.out)
   have B2:Hid (Below B w w2∧Fr w w2):=Lib.hid ⟨B1.out.1.trans (ho2.below hr),B1.out.2.trans (HR1.out.frame fun g _ hg=>ho2.block g hg)⟩
   have HOK:=Lib.hid hok
   have HR2:=Lib.hid hr2
   obtain ⟨mc,hmc,hlk⟩:=cr_lookC hr2 s
   rw[← HO.out]at hlk
   obtain ⟨A2,c2,hcv,hcl2⟩:=cr_colsC hr2
   obtain ⟨at_,hat_⟩:∃ x,x=o.getD 0:=⟨_,rfl⟩
   obtain ⟨is_,his⟩:∃ x,x=o.isSome:=⟨_,rfl⟩
   rw[← hat_,← his]at hlk
   obtain ⟨n2,hn2⟩:∃ x,x=st2.c.cols.length:=⟨_,rfl⟩
   rw[← hn2]at hcv hcl2 hc2
   have HN2:=Lib.hid hn2
   have hn20:(0:Int)≤(n2:Int):=by omega
   have hcs:(is_=true∧(at_ == (n2:Int) - 1)=true∧Hid (o=some ((st2.c.cols.length:Int) - 1)))∨(Hid (o≠some ((st2.c.cols.length:Int) - 1))∧((is_=true∧(at_ == (n2:Int) - 1)=false)∨is_=false)):=by
    rw[← HN2.out]
    cases ho9:o with
    | none=>rw[ho9]at his;exact .inr ⟨(fun h=>nomatch h),.inr his⟩
    | some i=>
      rw[ho9]at his hat_
      have:at_=i:=hat_
      subst this
      by_cases h9:at_=(n2:Int) - 1
      ·exact .inl ⟨his,by simp[h9],by show some at_=_;rw[← h9]⟩
      ·exact .inr ⟨fun h=>h9 (Option.some.inj h),.inl ⟨his,by simpa using h9⟩⟩
   have HIS:=Lib.hid his
   clear hr2 ho2 hok hxc1 hat_ his hn2
   rcases hcs with ⟨rfl,hea,ho9⟩|⟨hno,hea⟩
   ·have hlast:Hid (0<st2.c.cols.length):=by
     have:=HS2.out.1.2 s _ (HO.out.symm.trans ho9.out)
     show _<_
     omega
    have CP:=Lib.hid (column_pairs HR2.out (Nat.le_trans hB B2.out.1.size) (fun W hW=>hT W (B2.out.1.trans hW)) HS2.out.1 HS2.out.2.1 hnf HS2.out.2.2 hlast.out (by rw[← HN2.out];omega) HX2.out)
    unfold Turns at CP
    go_wp2_with fail
    refine CP.out.mono ?_
    rintro e w5 ⟨rfl,hr5,hb5,hs5,hf5⟩
    have HR5:=Lib.hid hr5
    have HF5:=Lib.hid hf5
    clear hr5 hf5
    go_wp2_with fail
    go_end0
    exact ⟨rfl,by rw[hM.out,if_neg hnm.out,if_pos ho9.out];exact HR5.out,B2.out.1.trans hb5,Nat.le_trans B2.out.1.size hs5,B2.out.2.trans HF5.out⟩
   ·go_upto_region 6 with fail
    go_cut [48] (fun c wc=>c=.bool true∧wc=w2)
    case first=>
     rcases hea with ⟨rfl,hea⟩|rfl
     ·go_wp2_with fail
      go_meet
      exact ⟨by simp[bne,hea],rfl⟩
     ·go_wp2_with fail
      go_meet
      exact ⟨rfl,rfl⟩
    case rest=>
     obtain ⟨rfl,hwc⟩:=hcut
     obtain rfl:=hwc.symm
     go_upto_region 7 with fail
     go_cut [] (fun wc=>Hid (CR B wc r st3)∧Hid (Boxed bx r wc)∧Hid (Below B w wc∧Fr w wc))
     case first=>
      have hd2:Below B w2 w2.drew:=(Below.refl _ _).drew
      have CBd:=Lib.hid fun b=>CB.out _ b (HR2.out.keep (Below.refl _ _).drew)
      obtain ⟨nb,hnb⟩:∃ x,nameB s=x:=⟨_,rfl⟩
      obtain ⟨rb,hrb⟩:∃ x,(s == [82,72,83])=x:=⟨_,rfl⟩
      clear hcv hcl2 hmc hlk
      have hfin:Hid (∀ b W W',CR B W r st2→Boxed bx r W→Below B w W∧Fr w W→Noted B r st2 b 4 W (.returned (.tuple #[])) W'→b=(o.isSome || !nameB s || s == rhsM)→CR B W' r st3∧Boxed bx r W'∧Below B w W'∧Fr w W'):=Lib.hid fun b W W' hc hb hbl hno hb9=>⟨hno.2.1.cast (by rw[H3.out,hb9]),hno.2.2.1.boxed hbr hb,hbl.1.trans (hno.2.2.1.below hr),hbl.2.trans (hc.frame fun g _ hg=>hno.2.2.1.block g hg)⟩
      have hn3:(s == rhsM)=rb:=hrb
      rcases hea with ⟨rfl,hea⟩|rfl
      ·skip
       have HBB:Hid (true=(o.isSome || !nameB s || s == rhsM)):=Lib.hid (by rw[← HIS.out,hnb,hn3];rfl)
       refine wp_region_T 11 ((fun W=>W.cell? ⟨bx,0,none⟩=some (.pointer (some ⟨r,0,none⟩)))) (by kernel_rfl) ?_
       change wpAnyT _ _ _ _ _ _ _ _ _ (World.drew _)
       obtain ⟨W0,hW0⟩:∃ X,X=(w2).drew:=⟨_,rfl⟩
       rw[← hW0]
       have z0:Below (w2).heap.size (w2) W0:=by rw[hW0];exact Below.drewN_ (Below.refl _ _) 1
       clear hW0
       refine wpAnyT_take (i:=0) (oi:=vcolm7_0) (v:=.pointer (some ⟨r,0,none⟩)) rfl (by kernel_rfl) (by kernel_rfl) (by kernel_rfl) (by kernel_rfl) (fun _ _ _ h=>h) (Or.inl ⟨by kernel_rfl,?_⟩) (cell_keep hxc2 z0) ?_
       ·intro w hSw;skip;go_simp<;>first|omega|(intro hh;exfalso;omega)|rfl
       try simp only[Act.put,List.setIfInBounds_toArray,List.set_cons_zero,List.set_cons_succ,vcolm7_0]
       refine wpAnyT_take (i:=1) (oi:=vcolm7_1) (v:=.bool true) rfl (by kernel_rfl) (by kernel_rfl) (by kernel_rfl) (by kernel_rfl) (fun _ _ _ h=>h) (Or.inl ⟨by kernel_rfl,?_⟩) (cell_keep hxc2 z0) ?_
       ·intro w hSw;go_simp<;>first|omega|(intro hh;exfalso;omega)|rfl
       try simp only[Act.put,List.setIfInBounds_toArray,List.set_cons_zero,List.set_cons_succ,vcolm7_1]
       refine wpAnyT_take (i:=2) (oi:=vcolm7_2) (v:=.bool true) rfl (by kernel_rfl) (by kernel_rfl) (by kernel_rfl) (by kernel_rfl) (fun _ _ _ h=>h) (Or.inl ⟨by kernel_rfl,?_⟩) (cell_keep hxc2 z0) ?_
       ·intro w hSw;go_simp<;>first|omega|(intro hh;exfalso;omega)|rfl
       try simp only[Act.put,List.setIfInBounds_toArray,List.set_cons_zero,List.set_cons_succ,vcolm7_2]
       refine wpAnyT_take (i:=3) (oi:=vcolm7_3) (v:=undef) rfl (by kernel_rfl) (by kernel_rfl) (by kernel_rfl) (by kernel_rfl) (fun _ _ _ h=>h) (Or.inr ⟨by kernel_rfl,rfl⟩) (cell_keep hxc2 z0) ?_
       try simp only[Act.put,List.setIfInBounds_toArray,List.set_cons_zero,List.set_cons_succ,vcolm7_3]
       refine wpAnyT_take (i:=4) (oi:=vcolm7_4) (v:=undef) rfl (by kernel_rfl) (by kernel_rfl) (by kernel_rfl) (by kernel_rfl) (fun _ _ _ h=>h) (Or.inr ⟨by kernel_rfl,rfl⟩) (cell_keep hxc2 z0) ?_
       try simp only[Act.put,List.setIfInBounds_toArray,List.set_cons_zero,List.set_cons_succ,vcolm7_4]
       refine wpAnyT_take (i:=5) (oi:=vcolm7_5) (v:=undef) rfl (by kernel_rfl) (by kernel_rfl) (by kernel_rfl) (by kernel_rfl) (fun _ _ _ h=>h) (Or.inr ⟨by kernel_rfl,rfl⟩) (cell_keep hxc2 z0) ?_
       try simp only[Act.put,List.setIfInBounds_toArray,List.set_cons_zero,List.set_cons_succ,vcolm7_5]
       refine wpAnyT_take (i:=6) (oi:=vcolm7_6) (v:=.bool true) rfl (by kernel_rfl) (by kernel_rfl) (by kernel_rfl) (by kernel_rfl) (fun _ _ _ h=>h) (Or.inl ⟨by kernel_rfl,?_⟩) (cell_keep hxc2 z0) ?_
       ·intro w hSw;go_simp<;>first|omega|(intro hh;exfalso;omega)|rfl
       try simp only[Act.put,List.setIfInBounds_toArray,List.set_cons_zero,List.set_cons_succ,vcolm7_6]
       refine wpAnyT_take (i:=7) (oi:=vcolm7_7) (v:=.bool true) rfl (by kernel_rfl) (by kernel_rfl) (by kernel_rfl) (by kernel_rfl) (fun _ _ _ h=>h) (Or.inl ⟨by kernel_rfl,?_⟩) (cell_keep hxc2 z0) ?_
       ·intro w hSw;go_simp<;>first|omega|(intro hh;exfalso;omega)|rfl
       try simp only[Act.put,List.setIfInBounds_toArray,List.set_cons_zero,List.set_cons_succ,vcolm7_7]
       refine wpAnyT_take (i:=8) (oi:=vcolm7_8) (v:=undef) rfl (by kernel_rfl) (by kernel_rfl) (by kernel_rfl) (by kernel_rfl) (fun _ _ _ h=>h) (Or.inr ⟨by kernel_rfl,rfl⟩) (cell_keep hxc2 z0) ?_
       try simp only[Act.put,List.setIfInBounds_toArray,List.set_cons_zero,List.set_cons_succ,vcolm7_8]
       refine wpAnyT_take (i:=9) (oi:=vcolm7_9) (v:=undef) rfl (by kernel_rfl) (by kernel_rfl) (by kernel_rfl) (by kernel_rfl) (fun _ _ _ h=>h) (Or.inr ⟨by kernel_rfl,rfl⟩) (cell_keep hxc2 z0) ?_
       try simp only[Act.put,List.setIfInBounds_toArray,List.set_cons_zero,List.set_cons_succ,vcolm7_9]
       refine wpAnyT_take (i:=10) (oi:=vcolm7_10) (v:=.bool true) rfl (by kernel_rfl) (by kernel_rfl) (by kernel_rfl) (by kernel_rfl) (fun _ _ _ h=>h) (Or.inl ⟨by kernel_rfl,?_⟩) (cell_keep hxc2 z0) ?_
       ·intro w hSw;go_simp<;>first|omega|(intro hh;exfalso;omega)|rfl
       try simp only[Act.put,List.setIfInBounds_toArray,List.set_cons_zero,List.set_cons_succ,vcolm7_10]
       refine wpAnyT_one (i:=11) (o:=vcolm7_11) rfl (by kernel_rfl) ?_
       intro K hK
       simp only[vcolm7_11]
       go_simp
       go_at_call 80
       have hz:=z0
       refine (CB.out _ _ (HR2.out.keep hz)).mono ?_
       rintro e W9 hno
       obtain rfl:=hno.1
       have HF9:=Lib.hid (hfin.out _ _ _ (HR2.out.keep hz) (HX2.out.fr (Fr.below hz)) ⟨B2.out.1.trans (hz.mono (Nat.le_trans hB B2.out.1.size)),B2.out.2.trans (Fr.below hz)⟩ hno HBB.out)
       clear hno
       refine hK.out _ _ (fun h=>absurd rfl h) ?_
       clear hK K
       try simp only[Act.put,List.setIfInBounds_toArray,List.set_cons_zero,List.set_cons_succ]
       refine wpAnyT_done (by kernel_rfl) ?_ _
       go_wp2_with fail
       go_meet
       exact ⟨HF9.out.1,HF9.out.2.1,HF9.out.2.2⟩
      ·cases nb with
       | false=>
         have HBB:Hid (true=(o.isSome || !nameB s || s == rhsM)):=Lib.hid (by rw[← HIS.out,hnb,hn3];rfl)
         refine wp_region_T 11 ((fun W=>W.cell? ⟨bx,0,none⟩=some (.pointer (some ⟨r,0,none⟩)))) (by kernel_rfl) ?_
         change wpAnyT _ _ _ _ _ _ _ _ _ (World.drew _)
         obtain ⟨W0,hW0⟩:∃ X,X=(w2).drew:=⟨_,rfl⟩
         rw[← hW0]
         have z0:Below (w2).heap.size (w2) W0:=by rw[hW0];exact Below.drewN_ (Below.refl _ _) 1
         clear hW0
         refine wpAnyT_take (i:=0) (oi:=vcolm7_0) (v:=.pointer (some ⟨r,0,none⟩)) rfl (by kernel_rfl) (by kernel_rfl) (by kernel_rfl) (by kernel_rfl) (fun _ _ _ h=>h) (Or.inl ⟨by kernel_rfl,?_⟩) (cell_keep hxc2 z0) ?_
         ·intro w hSw;skip;go_simp<;>first|omega|(intro hh;exfalso;omega)|rfl
         try simp only[Act.put,List.setIfInBounds_toArray,List.set_cons_zero,List.set_cons_succ,vcolm7_0]
         refine wpAnyT_take (i:=1) (oi:=vcolm7_1) (v:=.bool false) rfl (by kernel_rfl) (by kernel_rfl) (by kernel_rfl) (by kernel_rfl) (fun _ _ _ h=>h) (Or.inl ⟨by kernel_rfl,?_⟩) (cell_keep hxc2 z0) ?_
         ·intro w hSw;go_simp<;>first|omega|(intro hh;exfalso;omega)|rfl
         try simp only[Act.put,List.setIfInBounds_toArray,List.set_cons_zero,List.set_cons_succ,vcolm7_1]
         refine wpAnyT_take (i:=2) (oi:=vcolm7_2) (v:=.bool false) rfl (by kernel_rfl) (by kernel_rfl) (by kernel_rfl) (by kernel_rfl) (fun _ _ _ h=>h) (Or.inl ⟨by kernel_rfl,?_⟩) (cell_keep hxc2 z0) ?_
         ·intro w hSw;go_simp<;>first|omega|(intro hh;exfalso;omega)|rfl
         try simp only[Act.put,List.setIfInBounds_toArray,List.set_cons_zero,List.set_cons_succ,vcolm7_2]
         refine wpAnyT_take (i:=3) (oi:=vcolm7_3) (v:=.string ⟨s.toArray⟩) rfl (by kernel_rfl) (by kernel_rfl) (by kernel_rfl) (by kernel_rfl) (fun _ _ _ h=>h) (Or.inl ⟨by kernel_rfl,?_⟩) (cell_keep hxc2 z0) ?_
         ·intro w hSw;go_simp<;>first|omega|(intro hh;exfalso;omega)|rfl
         try simp only[Act.put,List.setIfInBounds_toArray,List.set_cons_zero,List.set_cons_succ,vcolm7_3]
         refine wpAnyT_one (i:=4) (o:=vcolm7_4) rfl (by kernel_rfl) ?_
         intro K hK
         simp only[vcolm7_4]
         go_simp
         go_at_call 84
         refine (words_Name _ _ (Nat.le_trans HOK.out.1 (by omega))).mono ?_
         rintro e W4 ⟨rfl,b4⟩
         rw[hnb]
         refine hK.out _ _ (fun _=>cell_keep hxc2 (z0.trans (b4.mono z0.size))) ?_
         clear hK K
         try simp only[Act.put,List.setIfInBounds_toArray,List.set_cons_zero,List.set_cons_succ]
         refine wpAnyT_take (i:=5) (oi:=vcolm7_5) (v:=.bool true) rfl (by kernel_rfl) (by kernel_rfl) (by kernel_rfl) (by kernel_rfl) (fun _ _ _ h=>h) (Or.inl ⟨by kernel_rfl,?_⟩) (cell_keep hxc2 (z0.trans (b4.mono z0.size))) ?_
         ·intro w hSw;go_simp<;>first|omega|(intro hh;exfalso;omega)|rfl
         try simp only[Act.put,List.setIfInBounds_toArray,List.set_cons_zero,List.set_cons_succ,vcolm7_5]
         refine wpAnyT_take (i:=6) (oi:=vcolm7_6) (v:=.bool true) rfl (by kernel_rfl) (by kernel_rfl) (by kernel_rfl) (by kernel_rfl) (fun _ _ _ h=>h) (Or.inl ⟨by kernel_rfl,?_⟩) (cell_keep hxc2 (z0.trans (b4.mono z0.size))) ?_
         ·intro w hSw;go_simp<;>first|omega|(intro hh;exfalso;omega)|rfl
         try simp only[Act.put,List.setIfInBounds_toArray,List.set_cons_zero,List.set_cons_succ,vcolm7_6]
         refine wpAnyT_take (i:=7) (oi:=vcolm7_7) (v:=.bool true) rfl (by kernel_rfl) (by kernel_rfl) (by kernel_rfl) (by kernel_rfl) (fun _ _ _ h=>h) (Or.inl ⟨by kernel_rfl,?_⟩) (cell_keep hxc2 (z0.trans (b4.mono z0.size))) ?_
         ·intro w hSw;go_simp<;>first|omega|(intro hh;exfalso;omega)|rfl
         try simp only[Act.put,List.setIfInBounds_toArray,List.set_cons_zero,List.set_cons_succ,vcolm7_7]
         refine wpAnyT_take (i:=8) (oi:=vcolm7_8) (v:=undef) rfl (by kernel_rfl) (by kernel_rfl) (by kernel_rfl) (by kernel_rfl) (fun _ _ _ h=>h) (Or.inr ⟨by kernel_rfl,rfl⟩) (cell_keep hxc2 (z0.trans (b4.mono z0.size))) ?_
         try simp only[Act.put,List.setIfInBounds_toArray,List.set_cons_zero,List.set_cons_succ,vcolm7_8]
         refine wpAnyT_take (i:=9) (oi:=vcolm7_9) (v:=undef) rfl (by kernel_rfl) (by kernel_rfl) (by kernel_rfl) (by kernel_rfl) (fun _ _ _ h=>h) (Or.inr ⟨by kernel_rfl,rfl⟩) (cell_keep hxc2 (z0.trans (b4.mono z0.size))) ?_
         try simp only[Act.put,List.setIfInBounds_toArray,List.set_cons_zero,List.set_cons_succ,vcolm7_9]
         refine wpAnyT_take (i:=10) (oi:=vcolm7_10) (v:=.bool true) rfl (by kernel_rfl) (by kernel_rfl) (by kernel_rfl) (by kernel_rfl) (fun _ _ _ h=>h) (Or.inl ⟨by kernel_rfl,?_⟩) (cell_keep hxc2 (z0.trans (b4.mono z0.size))) ?_
         ·intro w hSw;go_simp<;>first|omega|(intro hh;exfalso;omega)|rfl
         try simp only[Act.put,List.setIfInBounds_toArray,List.set_cons_zero,List.set_cons_succ,vcolm7_10]
         refine wpAnyT_one (i:=11) (o:=vcolm7_11) rfl (by kernel_rfl) ?_
         intro K hK
         simp only[vcolm7_11]
         go_simp
         go_at_call 80
         have hz:=z0.trans (b4.mono z0.size)
         refine (CB.out _ _ (HR2.out.keep hz)).mono ?_
         rintro e W9 hno
         obtain rfl:=hno.1
         have HF9:=Lib.hid (hfin.out _ _ _ (HR2.out.keep hz) (HX2.out.fr (Fr.below hz)) ⟨B2.out.1.trans (hz.mono (Nat.le_trans hB B2.out.1.size)),B2.out.2.trans (Fr.below hz)⟩ hno HBB.out)
         clear hno
         refine hK.out _ _ (fun h=>absurd rfl h) ?_
         clear hK K
         try simp only[Act.put,List.setIfInBounds_toArray,List.set_cons_zero,List.set_cons_succ]
         refine wpAnyT_done (by kernel_rfl) ?_ _
         go_wp2_with fail
         go_meet
         exact ⟨HF9.out.1,HF9.out.2.1,HF9.out.2.2⟩
       | true=>
         have HBB:Hid (rb=(o.isSome || !nameB s || s == rhsM)):=Lib.hid (by rw[← HIS.out,hnb,hn3];rfl)
         refine wp_region_T 11 ((fun W=>W.cell? ⟨bx,0,none⟩=some (.pointer (some ⟨r,0,none⟩)))) (by kernel_rfl) ?_
         change wpAnyT _ _ _ _ _ _ _ _ _ (World.drew _)
         obtain ⟨W0,hW0⟩:∃ X,X=(w2).drew:=⟨_,rfl⟩
         rw[← hW0]
         have z0:Below (w2).heap.size (w2) W0:=by rw[hW0];exact Below.drewN_ (Below.refl _ _) 1
         clear hW0
         refine wpAnyT_take (i:=0) (oi:=vcolm7_0) (v:=.pointer (some ⟨r,0,none⟩)) rfl (by kernel_rfl) (by kernel_rfl) (by kernel_rfl) (by kernel_rfl) (fun _ _ _ h=>h) (Or.inl ⟨by kernel_rfl,?_⟩) (cell_keep hxc2 z0) ?_
         ·intro w hSw;skip;go_simp<;>first|omega|(intro hh;exfalso;omega)|rfl
         try simp only[Act.put,List.setIfInBounds_toArray,List.set_cons_zero,List.set_cons_succ,vcolm7_0]
         refine wpAnyT_take (i:=1) (oi:=vcolm7_1) (v:=.bool false) rfl (by kernel_rfl) (by kernel_rfl) (by kernel_rfl) (by kernel_rfl) (fun _ _ _ h=>h) (Or.inl ⟨by kernel_rfl,?_⟩) (cell_keep hxc2 z0) ?_
         ·intro w hSw;go_simp<;>first|omega|(intro hh;exfalso;omega)|rfl
         try simp only[Act.put,List.setIfInBounds_toArray,List.set_cons_zero,List.set_cons_succ,vcolm7_1]
         refine wpAnyT_take (i:=2) (oi:=vcolm7_2) (v:=.bool false) rfl (by kernel_rfl) (by kernel_rfl) (by kernel_rfl) (by kernel_rfl) (fun _ _ _ h=>h) (Or.inl ⟨by kernel_rfl,?_⟩) (cell_keep hxc2 z0) ?_
         ·intro w hSw;go_simp<;>first|omega|(intro hh;exfalso;omega)|rfl
         try simp only[Act.put,List.setIfInBounds_toArray,List.set_cons_zero,List.set_cons_succ,vcolm7_2]
         refine wpAnyT_take (i:=3) (oi:=vcolm7_3) (v:=.string ⟨s.toArray⟩) rfl (by kernel_rfl) (by kernel_rfl) (by kernel_rfl) (by kernel_rfl) (fun _ _ _ h=>h) (Or.inl ⟨by kernel_rfl,?_⟩) (cell_keep hxc2 z0) ?_
         ·intro w hSw;go_simp<;>first|omega|(intro hh;exfalso;omega)|rfl
         try simp only[Act.put,List.setIfInBounds_toArray,List.set_cons_zero,List.set_cons_succ,vcolm7_3]
         refine wpAnyT_one (i:=4) (o:=vcolm7_4) rfl (by kernel_rfl) ?_
         intro K hK
         simp only[vcolm7_4]
         go_simp
         go_at_call 84
         refine (words_Name _ _ (Nat.le_trans HOK.out.1 (by omega))).mono ?_
         rintro e W4 ⟨rfl,b4⟩
         rw[hnb]
         refine hK.out _ _ (fun _=>cell_keep hxc2 (z0.trans (b4.mono z0.size))) ?_
         clear hK K
         try simp only[Act.put,List.setIfInBounds_toArray,List.set_cons_zero,List.set_cons_succ]
         refine wpAnyT_take (i:=5) (oi:=vcolm7_5) (v:=.bool false) rfl (by kernel_rfl) (by kernel_rfl) (by kernel_rfl) (by kernel_rfl) (fun _ _ _ h=>h) (Or.inl ⟨by kernel_rfl,?_⟩) (cell_keep hxc2 (z0.trans (b4.mono z0.size))) ?_
         ·intro w hSw;go_simp<;>first|omega|(intro hh;exfalso;omega)|rfl
         try simp only[Act.put,List.setIfInBounds_toArray,List.set_cons_zero,List.set_cons_succ,vcolm7_5]
         refine wpAnyT_take (i:=6) (oi:=vcolm7_6) (v:=.bool false) rfl (by kernel_rfl) (by kernel_rfl) (by kernel_rfl) (by kernel_rfl) (fun _ _ _ h=>h) (Or.inl ⟨by kernel_rfl,?_⟩) (cell_keep hxc2 (z0.trans (b4.mono z0.size))) ?_
         ·intro w hSw;go_simp<;>first|omega|(intro hh;exfalso;omega)|rfl
         try simp only[Act.put,List.setIfInBounds_toArray,List.set_cons_zero,List.set_cons_succ,vcolm7_6]
         refine wpAnyT_take (i:=7) (oi:=vcolm7_7) (v:=.bool false) rfl (by kernel_rfl) (by kernel_rfl) (by kernel_rfl) (by kernel_rfl) (fun _ _ _ h=>h) (Or.inl ⟨by kernel_rfl,?_⟩) (cell_keep hxc2 (z0.trans (b4.mono z0.size))) ?_
         ·intro w hSw;go_simp<;>first|omega|(intro hh;exfalso;omega)|rfl
         try simp only[Act.put,List.setIfInBounds_toArray,List.set_cons_zero,List.set_cons_succ,vcolm7_7]
         refine wpAnyT_take (i:=8) (oi:=vcolm7_8) (v:=.string ⟨s.toArray⟩) rfl (by kernel_rfl) (by kernel_rfl) (by kernel_rfl) (by kernel_rfl) (fun _ _ _ h=>h) (Or.inl ⟨by kernel_rfl,?_⟩) (cell_keep hxc2 (z0.trans (b4.mono z0.size))) ?_
         ·intro w hSw;go_simp<;>first|omega|(intro hh;exfalso;omega)|rfl
         try simp only[Act.put,List.setIfInBounds_toArray,List.set_cons_zero,List.set_cons_succ,vcolm7_8]
         refine wpAnyT_take (i:=9) (oi:=vcolm7_9) (v:=.bool rb) rfl (by kernel_rfl) (by kernel_rfl) (by kernel_rfl) (by kernel_rfl) (fun _ _ _ h=>h) (Or.inl ⟨by kernel_rfl,?_⟩) (cell_keep hxc2 (z0.trans (b4.mono z0.size))) ?_
         ·intro w hSw;go_simp<;>first|omega|(intro hh;exfalso;omega)|rfl
         try simp only[Act.put,List.setIfInBounds_toArray,List.set_cons_zero,List.set_cons_succ,vcolm7_9]
         refine wpAnyT_take (i:=10) (oi:=vcolm7_10) (v:=.bool rb) rfl (by kernel_rfl) (by kernel_rfl) (by kernel_rfl) (by kernel_rfl) (fun _ _ _ h=>h) (Or.inl ⟨by kernel_rfl,?_⟩) (cell_keep hxc2 (z0.trans (b4.mono z0.size))) ?_
         ·intro w hSw;go_simp<;>first|omega|(intro hh;exfalso;omega)|rfl
         try simp only[Act.put,List.setIfInBounds_toArray,List.set_cons_zero,List.set_cons_succ,vcolm7_10]
         refine wpAnyT_one (i:=11) (o:=vcolm7_11) rfl (by kernel_rfl) ?_
         intro K hK
         simp only[vcolm7_11]
         go_simp
         go_at_call 80
         have hz:=z0.trans (b4.mono z0.size)
         refine (CB.out _ _ (HR2.out.keep hz)).mono ?_
         rintro e W9 hno
         obtain rfl:=hno.1
         have HF9:=Lib.hid (hfin.out _ _ _ (HR2.out.keep hz) (HX2.out.fr (Fr.below hz)) ⟨B2.out.1.trans (hz.mono (Nat.le_trans hB B2.out.1.size)),B2.out.2.trans (Fr.below hz)⟩ hno HBB.out)
         clear hno
         refine hK.out _ _ (fun h=>absurd rfl h) ?_
         clear hK K
         try simp only[Act.put,List.setIfInBounds_toArray,List.set_cons_zero,List.set_cons_succ]
         refine wpAnyT_done (by kernel_rfl) ?_ _
         go_wp2_with fail
         go_meet
         exact ⟨HF9.out.1,HF9.out.2.1,HF9.out.2.2⟩
     case rest=>
      obtain ⟨hr3,hx3,b3⟩:=hcut
      have hxc3:=hx3.out.cell
      obtain ⟨A3,c3,hcv3,hcl3⟩:=cr_colsC hr3.out
      obtain ⟨n3,hn3⟩:∃ x,x=st3.c.cols.length:=⟨_,rfl⟩
      rw[← hn3]at hcv3 hcl3 hc3
      have hn30:(0:Int)≤(n3:Int):=by omega
      have CCd:Hid (∀ b,Calls Tryz.prog 80 #[.pointer (some ⟨r,0,none⟩),.bool b,.int .i64 6] wc.drew (Noted B r st3 b 6 wc.drew)):=Lib.hid fun b=>CC.out _ b (hr3.out.keep (Below.refl _ _).drew)
      have HN3:=Lib.hid hn3
      clear hn3 hcv hcl2 hmc hlk hxc2
      go_wp2_with fail
      go_still_tail 8,(by kernel_rfl)
      go_wp2_with fail
      refine (CCd.out _).mono ?_
      rintro e w4 ⟨rfl,hr4,ho4,hx⟩
      clear hx
      have hr4':Hid (CR B w4 r st4):=Lib.hid (hr4.cast (by rw[H4.out,← HN3.out]))
      have hx4:Hid (Boxed bx r w4):=Lib.hid (ho4.boxed hbr (hx3.out.fr (Fr.below (Below.refl _ _).drew)))
      have b4:Hid (Below B w w4∧Fr w w4):=Lib.hid ⟨(b3.out.1.trans ((Below.refl _ _).drew)).trans (ho4.below hr),(b3.out.2.trans (Fr.below (Below.refl _ _).drew)).trans ((hr3.out.keep (Below.refl _ _).drew).frame fun g _ hg=>ho4.block g hg)⟩
      have hxc4:=hx4.out.cell
      have he:=hr4'.out.eC
      clear hr4 ho4 hcv3 hcl3 hxc3
      by_cases h0:st4.e=0
      ·have h01:(st4.e != 0)=false:=by simp[h0]
       have hd4:Below w4.heap.size w4 w4.drew:=(Below.refl _ _).drew
       obtain ⟨n4,hn4⟩:∃ x,x=st4.c.cols.length:=⟨_,rfl⟩
       obtain ⟨mc5,w5,hm5,hup5,hcr5,hb5,hs5,hf5⟩:=cr_updC (hr4'.out.keep hd4) s (n4:Nat)
       have hm4:w4.cell? ⟨r,6,none⟩=some (.map (some mc5)):=hm5
       obtain ⟨A4,c4,hcv4,hcl4⟩:=cr_colsC hr4'.out
       rw[← hn4]at hcv4 hcl4 hc4
       have hx5:Boxed bx r w5:=(hx4.out.fr (Fr.below hd4)).fr hf5
       have B5:Hid (Below B w w5∧Fr w w5):=Lib.hid ⟨(b4.out.1.trans (Below.refl _ _).drew).trans hb5,(b4.out.2.trans (Fr.below hd4)).trans hf5⟩
       obtain ⟨rv,cv,lv,mr,mc,ms,rvs,hd⟩:=hcr5
       have hxc5:=hx5.cell
       have hcv5:=hd.cells.2.2.2.1
       have hin5:=hd.cells.2.2.2.2.2.2.2.2.1
       have HD:=Lib.hid hd
       have HX5:=Lib.hid hx5
       have HN4:=Lib.hid hn4
       obtain ⟨i1,hi1,hz1,hsz1,hby1⟩:=info_Col
       have h00:Hid (st4.e=0):=h0
       clear hd hx5 hf5 hs5 hb5 hm5 hn4 h0
       go_wp2_with fail
       go_still_tail 11,(by kernel_rfl)
       go_upto_region 11 with fail
       refine wp_region_T 17 ((fun W=>W.cell? ⟨bx,0,none⟩=some (.pointer (some ⟨r,0,none⟩))∧W.cell? ⟨r,3,none⟩=some cv∧W.cell? ⟨r,8,none⟩=some (.bool st4.integer))) (by kernel_rfl) ?_
       change wpAnyT _ _ _ _ _ _ _ _ _ (World.drew _)
       obtain ⟨W0,hW0⟩:∃ X,X=(w5).drew:=⟨_,rfl⟩
       rw[← hW0]
       have z0:Below (w5).heap.size (w5) W0:=by rw[hW0];exact Below.drewN_ (Below.refl _ _) 1
       clear hW0
       refine wpAnyT_take (i:=0) (oi:=vcolm11_0) (v:=.pointer (some ⟨r,0,none⟩)) rfl (by kernel_rfl) (by kernel_rfl) (by kernel_rfl) (by kernel_rfl) (fun _ _ _ h=>h) (Or.inl ⟨by kernel_rfl,?_⟩) (⟨cell_keep hxc5 z0,cell_keep hcv5 z0,cell_keep hin5 z0⟩) ?_
       ·intro w hSw;obtain ⟨e0,e1,e2⟩:=hSw;go_simp<;>first|omega|(intro hh;exfalso;omega)|rfl
       try simp only[Act.put,List.setIfInBounds_toArray,List.set_cons_zero,List.set_cons_succ,vcolm11_0]
       refine wpAnyT_take (i:=1) (oi:=vcolm11_1) (v:=.pointer (some ⟨r,0,none⟩)) rfl (by kernel_rfl) (by kernel_rfl) (by kernel_rfl) (by kernel_rfl) (fun _ _ _ h=>h) (Or.inl ⟨by kernel_rfl,?_⟩) (⟨cell_keep hxc5 z0,cell_keep hcv5 z0,cell_keep hin5 z0⟩) ?_
       ·intro w hSw;obtain ⟨e0,e1,e2⟩:=hSw;go_simp<;>first|omega|(intro hh;exfalso;omega)|rfl
       try simp only[Act.put,List.setIfInBounds_toArray,List.set_cons_zero,List.set_cons_succ,vcolm11_1]
       refine wpAnyT_take (i:=2) (oi:=vcolm11_2) (v:=.pointer (some ⟨r,0,none⟩)) rfl (by kernel_rfl) (by kernel_rfl) (by kernel_rfl) (by kernel_rfl) (fun _ _ _ h=>h) (Or.inl ⟨by kernel_rfl,?_⟩) (⟨cell_keep hxc5 z0,cell_keep hcv5 z0,cell_keep hin5 z0⟩) ?_
       ·intro w hSw;go_simp<;>first|omega|(intro hh;exfalso;omega)|rfl
       try simp only[Act.put,List.setIfInBounds_toArray,List.set_cons_zero,List.set_cons_succ,vcolm11_2]
       refine wpAnyT_take (i:=3) (oi:=vcolm11_3) (v:=.pointer (some ⟨r,0,none⟩)) rfl (by kernel_rfl) (by kernel_rfl) (by kernel_rfl) (by kernel_rfl) (fun _ _ _ h=>h) (Or.inl ⟨by kernel_rfl,?_⟩) (⟨cell_keep hxc5 z0,cell_keep hcv5 z0,cell_keep hin5 z0⟩) ?_
       ·intro w hSw;go_simp<;>first|omega|(intro hh;exfalso;omega)|rfl
       try simp only[Act.put,List.setIfInBounds_toArray,List.set_cons_zero,List.set_cons_succ,vcolm11_3]
       refine wpAnyT_take (i:=4) (oi:=vcolm11_4) (v:=.pointer (some ⟨r,3,none⟩)) rfl (by kernel_rfl) (by kernel_rfl) (by kernel_rfl) (by kernel_rfl) (fun _ _ _ h=>h) (Or.inl ⟨by kernel_rfl,?_⟩) (⟨cell_keep hxc5 z0,cell_keep hcv5 z0,cell_keep hin5 z0⟩) ?_
       ·intro w hSw;go_simp<;>first|omega|(intro hh;exfalso;omega)|rfl
       try simp only[Act.put,List.setIfInBounds_toArray,List.set_cons_zero,List.set_cons_succ,vcolm11_4]
       refine wpAnyT_take (i:=5) (oi:=vcolm11_5) (v:=cv) rfl (by kernel_rfl) (by kernel_rfl) (by kernel_rfl) (by kernel_rfl) (fun _ _ _ h=>h) (Or.inl ⟨by kernel_rfl,?_⟩) (⟨cell_keep hxc5 z0,cell_keep hcv5 z0,cell_keep hin5 z0⟩) ?_
       ·intro w hSw;obtain ⟨e0,e1,e2⟩:=hSw;go_simp<;>first|omega|(intro hh;exfalso;omega)|rfl
       try simp only[Act.put,List.setIfInBounds_toArray,List.set_cons_zero,List.set_cons_succ,vcolm11_5]
       refine wpAnyT_take (i:=6) (oi:=vcolm11_6) (v:=.string ⟨s.toArray⟩) rfl (by kernel_rfl) (by kernel_rfl) (by kernel_rfl) (by kernel_rfl) (fun _ _ _ h=>h) (Or.inl ⟨by kernel_rfl,?_⟩) (⟨cell_keep hxc5 z0,cell_keep hcv5 z0,cell_keep hin5 z0⟩) ?_
       ·intro w hSw;go_simp<;>first|omega|(intro hh;exfalso;omega)|rfl
       try simp only[Act.put,List.setIfInBounds_toArray,List.set_cons_zero,List.set_cons_succ,vcolm11_6]
       refine wpAnyT_take (i:=7) (oi:=vcolm11_7) (v:=.pointer (some ⟨r,0,none⟩)) rfl (by kernel_rfl) (by kernel_rfl) (by kernel_rfl) (by kernel_rfl) (fun _ _ _ h=>h) (Or.inl ⟨by kernel_rfl,?_⟩) (⟨cell_keep hxc5 z0,cell_keep hcv5 z0,cell_keep hin5 z0⟩) ?_
       ·intro w hSw;obtain ⟨e0,e1,e2⟩:=hSw;go_simp<;>first|omega|(intro hh;exfalso;omega)|rfl
       try simp only[Act.put,List.setIfInBounds_toArray,List.set_cons_zero,List.set_cons_succ,vcolm11_7]
       refine wpAnyT_take (i:=8) (oi:=vcolm11_8) (v:=.pointer (some ⟨r,0,none⟩)) rfl (by kernel_rfl) (by kernel_rfl) (by kernel_rfl) (by kernel_rfl) (fun _ _ _ h=>h) (Or.inl ⟨by kernel_rfl,?_⟩) (⟨cell_keep hxc5 z0,cell_keep hcv5 z0,cell_keep hin5 z0⟩) ?_
       ·intro w hSw;go_simp<;>first|omega|(intro hh;exfalso;omega)|rfl
       try simp only[Act.put,List.setIfInBounds_toArray,List.set_cons_zero,List.set_cons_succ,vcolm11_8]
       refine wpAnyT_take (i:=9) (oi:=vcolm11_9) (v:=.pointer (some ⟨r,8,none⟩)) rfl (by kernel_rfl) (by kernel_rfl) (by kernel_rfl) (by kernel_rfl) (fun _ _ _ h=>h) (Or.inl ⟨by kernel_rfl,?_⟩) (⟨cell_keep hxc5 z0,cell_keep hcv5 z0,cell_keep hin5 z0⟩) ?_
       ·intro w hSw;go_simp<;>first|omega|(intro hh;exfalso;omega)|rfl
       try simp only[Act.put,List.setIfInBounds_toArray,List.set_cons_zero,List.set_cons_succ,vcolm11_9]
       refine wpAnyT_take (i:=10) (oi:=vcolm11_10) (v:=.bool st4.integer) rfl (by kernel_rfl) (by kernel_rfl) (by kernel_rfl) (by kernel_rfl) (fun _ _ _ h=>h) (Or.inl ⟨by kernel_rfl,?_⟩) (⟨cell_keep hxc5 z0,cell_keep hcv5 z0,cell_keep hin5 z0⟩) ?_
       ·intro w hSw;obtain ⟨e0,e1,e2⟩:=hSw;go_simp<;>first|omega|(intro hh;exfalso;omega)|rfl
       try simp only[Act.put,List.setIfInBounds_toArray,List.set_cons_zero,List.set_cons_succ,vcolm11_10]
       refine wpAnyT_take (i:=11) (oi:=vcolm11_11) (v:=.agg #[.string ⟨s.toArray⟩,.string ⟨#[48]⟩,.string ⟨#[]⟩,.string ⟨#[48]⟩,.bool st4.integer]) rfl (by kernel_rfl) (by kernel_rfl) (by kernel_rfl) (by kernel_rfl) (fun _ _ _ h=>h) (Or.inl ⟨by kernel_rfl,?_⟩) (⟨cell_keep hxc5 z0,cell_keep hcv5 z0,cell_keep hin5 z0⟩) ?_
       ·intro w hSw;go_simp<;>first|omega|(intro hh;exfalso;omega)|rfl
       try simp only[Act.put,List.setIfInBounds_toArray,List.set_cons_zero,List.set_cons_succ,vcolm11_11]
       refine wpAnyT_one (i:=12) (o:=vcolm11_12) rfl (by kernel_rfl) ?_
       intro K hK
       simp only[vcolm11_12]
       go_simp
       obtain ⟨W6,h6⟩:∃ X,X=W0.alloc (.cells #[.string ⟨s.toArray⟩,.string ⟨#[48]⟩,.string ⟨#[]⟩,.string ⟨#[48]⟩,.bool st4.integer] 34):=⟨_,rfl⟩
       rw[← h6]
       have y6:Below W0.heap.size W0 W6:=by rw[h6];exact (Below.refl _ _).alloc (Nat.le_refl _) _
       have z6:=below_seq z0 y6
       have NN6:=Lib.hid (show Row W6 W0.heap.size 34 #[.string ⟨s.toArray⟩,.string ⟨#[48]⟩,.string ⟨#[]⟩,.string ⟨#[48]⟩,.bool st4.integer] by rw[h6];exact Row.new _ _ _)
       clear h6 y6
       refine hK.out _ _ (fun _=>⟨cell_keep hxc5 z6,cell_keep hcv5 z6,cell_keep hin5 z6⟩) ?_
       clear hK K
       try simp only[Act.put,List.setIfInBounds_toArray,List.set_cons_zero,List.set_cons_succ]
       refine wpAnyT_one (i:=13) (o:=vcolm11_13) rfl (by kernel_rfl) ?_
       intro K hK
       refine step_append_ownK (Kd:=fun _=>True) rfl (.tmp 91) (.tmp 98) 27 rfl B 34 i1 _ 5 Tryz.underlying27 hi1 hz1 hsz1 rfl (by omega) cv st4.c.cols.length (st4.c.cols.flatMap encCol) rfl (HD.out.cols.keep z6) ⟨W0.heap.size,0,none⟩ 1 1 [.string ⟨s.toArray⟩,.string ⟨#[48]⟩,.string ⟨#[]⟩,.string ⟨#[48]⟩,.bool st4.integer] rfl rfl (one_col NN6.out) (by simp[Value.oneCell']) (by simp) (by simp) (by omega) (by rw[← HN4.out];unfold maxLen;omega) (by rw[← HN4.out,hby1];omega) (Nat.le_trans hB (Nat.le_trans B5.out.1.size z6.size)) ?_
       intro v7 W7 own7 gr7 lc7
       obtain ⟨g7,cp7,rfl⟩:=OwnK.shape own7 (by omega)
       have HRD6:=HD.out.keep z6
       have ow6:=HD.out.cols.keep z6
       have bl:∀ {k:Nat}{cs:Array Value}{t:TypeId}{fr:Nat × Nat},w5.heap[k]?=some (.cells cs t fr)→t≠34→W7.heap[k]?=w5.heap[k]?:=fun {k _ _ _} hk ht=>by
        have h5:W6.heap[k]?=w5.heap[k]?:=blk_keep hk z6
        exact (grown_other ow6 gr7 (h5.trans hk) ht).trans h5
       have S7:((fun W=>W.cell? ⟨bx,0,none⟩=some (.pointer (some ⟨r,0,none⟩))∧W.cell? ⟨r,3,none⟩=some cv∧W.cell? ⟨r,8,none⟩=some (.bool st4.integer))) W7:=⟨((cell_same (bl HX5.out (by decide))) _).trans hxc5,((cell_same (bl HD.out.blk (by decide))) _).trans hcv5,((cell_same (bl HD.out.blk (by decide))) _).trans hin5⟩
       have hf7:W7.frozen? ⟨r,3,none⟩=false:=Row.free ((bl HD.out.blk (by decide)).trans HD.out.blk) _
       have hc7:=S7.2.1
       have HFI:Hid (CR B (W7.setCell ⟨r,3,none⟩ (.slice (some ⟨g7,0,none⟩) (st4.c.cols.length+1) cp7)) r { st4 with cols:=(s,(n4:Int)) :: st4.cols,c:={ st4.c with cols:=st4.c.cols ++ [(⟨s,[48],[],[48],st4.integer⟩:ColM)] } }):=Lib.hid ⟨_,_,_,_,_,_,_,HRD6.addCol (x:=⟨s,[48],[],[48],st4.integer⟩) own7 gr7⟩
       have HF:Hid (Fr w (W7.setCell ⟨r,3,none⟩ (.slice (some ⟨g7,0,none⟩) (st4.c.cols.length+1) cp7))):=Lib.hid (((B5.out.2.trans (Fr.below z6)).trans (Fr.own ow6 gr7 (.inr (.inr (.inr rfl))))).trans (Fr.same ((bl HD.out.blk (by decide)).trans HD.out.blk) (.inl rfl) fun g' _ hg'=>set_other W7 r _ _ g' hg'))
       have HB:Hid (Below B w (W7.setCell ⟨r,3,none⟩ (.slice (some ⟨g7,0,none⟩) (st4.c.cols.length+1) cp7))):=Lib.hid ((Below.grown (B5.out.1.trans (z6.mono (Nat.le_trans hB B5.out.1.size))) gr7 (Nat.le_trans hB (Nat.le_trans B5.out.1.size z6.size)) (fun j hj=>(ow6.lt hj).1)).trans (below_set hr))
       have HX7:Hid (Boxed bx r (W7.setCell ⟨r,3,none⟩ (.slice (some ⟨g7,0,none⟩) (st4.c.cols.length+1) cp7))):=Lib.hid ((set_other W7 r 3 _ bx hbr).trans ((bl HX5.out (by decide)).trans HX5.out))
       clear own7 gr7 lc7 HRD6 ow6 bl
       refine hK.out _ _ (fun _=>S7) ?_
       clear hK K
       try simp only[Act.put,List.setIfInBounds_toArray,List.set_cons_zero,List.set_cons_succ]
       refine wpAnyT_take (i:=14) (oi:=vcolm11_14) (v:=.pointer (some ⟨r,0,none⟩)) rfl (by kernel_rfl) (by kernel_rfl) (by kernel_rfl) (by kernel_rfl) (fun _ _ _ h=>h) (Or.inl ⟨by kernel_rfl,?_⟩) (S7) ?_
       ·intro w hSw;go_simp<;>first|omega|(intro hh;exfalso;omega)|rfl
       try simp only[Act.put,List.setIfInBounds_toArray,List.set_cons_zero,List.set_cons_succ,vcolm11_14]
       refine wpAnyT_take (i:=15) (oi:=vcolm11_15) (v:=.pointer (some ⟨r,0,none⟩)) rfl (by kernel_rfl) (by kernel_rfl) (by kernel_rfl) (by kernel_rfl) (fun _ _ _ h=>h) (Or.inl ⟨by kernel_rfl,?_⟩) (S7) ?_
       ·intro w hSw;go_simp<;>first|omega|(intro hh;exfalso;omega)|rfl
       try simp only[Act.put,List.setIfInBounds_toArray,List.set_cons_zero,List.set_cons_succ,vcolm11_15]
       refine wpAnyT_take (i:=16) (oi:=vcolm11_16) (v:=.pointer (some ⟨r,3,none⟩)) rfl (by kernel_rfl) (by kernel_rfl) (by kernel_rfl) (by kernel_rfl) (fun _ _ _ h=>h) (Or.inl ⟨by kernel_rfl,?_⟩) (S7) ?_
       ·intro w hSw;go_simp<;>first|omega|(intro hh;exfalso;omega)|rfl
       try simp only[Act.put,List.setIfInBounds_toArray,List.set_cons_zero,List.set_cons_succ,vcolm11_16]
       refine wpAnyT_one (i:=17) (o:=vcolm11_17) rfl (by kernel_rfl) ?_
       intro K hK
       simp only[vcolm11_17]
       go_simp
       refine hK.out _ _ (fun h=>absurd rfl h) ?_
       clear hK K
       try simp only[Act.put,List.setIfInBounds_toArray,List.set_cons_zero,List.set_cons_succ]
       refine wpAnyT_done (by kernel_rfl) ?_ _
       obtain ⟨W8,hW8⟩:∃ X,X=W7.setCell ⟨r,3,none⟩ (.slice (some ⟨g7,0,none⟩) (st4.c.cols.length+1) cp7):=⟨_,rfl⟩
       rw[← hW8]at HFI HF HB HX7 ⊢
       clear hW8 S7 hf7 hc7
       have HSEEN:=Lib.hid fun ty=>cr_clearS HFI.out ty
       obtain ⟨ms9,w9,hm9,hcl9,hcr9,hb9,hs9,hf9⟩:=HSEEN.out 0
       have hxc8:=HX7.out.cell
       have HX9:Hid (Boxed bx r w9):=Lib.hid (HX7.out.fr hf9)
       have B9:Hid (Below B w w9∧Fr w w9):=Lib.hid ⟨HB.out.trans hb9,HF.out.trans hf9⟩
       have hcr9':Hid (CR B w9 r (st4.addCol s)):=Lib.hid (hcr9.cast (by rw[HN4.out];rfl))
       have CP:=Lib.hid (column_pairs hcr9'.out (Nat.le_trans hB B9.out.1.size) (fun W hW=>hT W (B9.out.1.trans hW)) (CSt.addCol_good HS4.out.1 s) (nf:=nf) HS4.out.2.1 hnf HS4.out.2.2 (by simp[CSt.addCol]) (by simp only[CSt.addCol,List.length_append,List.length_singleton];rw[← HN4.out];omega) HX9.out)
       unfold Turns at CP
       have hxc9:=HX9.out.cell
       clear hcr9 hs9 hf9 hb9
       go_wp2_with fail
       refine CP.out.mono ?_
       rintro e w10 ⟨rfl,hr10,hb10,hs10,hf10⟩
       have HR10:=Lib.hid hr10
       have HF10:=Lib.hid hf10
       clear hr10 hf10
       go_wp2_with fail
       go_end0
       exact ⟨rfl,by rw[hM.out,if_neg hnm.out,if_neg hno.out,if_neg (by simpa using h00.out)];exact HR10.out,B9.out.1.trans hb10,Nat.le_trans B9.out.1.size hs10,B9.out.2.trans HF10.out⟩
      ·have h01:(st4.e != 0)=true:=by simp[h0]
       go_wp2_with fail
       refine bodyPost_ret (results_none rfl _ _ _) rfl ?_
       exact ⟨rfl,by rw[hM.out,if_neg hnm.out,if_neg hno.out,if_pos h0];exact hr4'.out,b4.out.1,b4.out.1.size,b4.out.2⟩
end Go.Proofs.YtjipjfoambbofaaGreatDoor
end
section
namespace Vic
open Go Go.RowKit
def NotedR (B r:Nat) (st:CSt) (rv cv lv:Value) (mr mc ms:Nat) (rvs:List RowV) (b:Bool) (e:Int) (w:World) (en:Ending) (w':World):Prop:=en=.returned (.tuple #[])∧RD B w' r (st.fails b e) rv cv lv mr mc ms rvs∧Only r w w'∧(b=false→w'=w)
def WordedR (B r:Nat) (st:CSt) (rv cv:Value) (mr mc ms:Nat) (rvs:List RowV) (w:World) (e:Ending) (w':World):Prop:=e=.returned (.string ⟨st.word.1.toArray⟩)∧(∃ lv,RD B w' r st.word.2 rv cv lv mr mc ms rvs)∧Only r w w'
end Vic
namespace Go.Proofs.YtjipjfoambbofaaGreatDoor
open Go.RowKit Vic
theorem core_fails_r {B:Nat}{w:World}{r:Nat}{st:CSt}{rv cv lv:Value}{mr mc ms:Nat}{rvs:List RowV}(h:RD B w r st rv cv lv mr mc ms rvs) (b:Bool) (e:Int):Calls Tryz.prog 80 #[.pointer (some ⟨r,0,none⟩),.bool b,.int .i64 e] w (NotedR B r st rv cv lv mr mc ms rvs b e w):=by
 unfold NotedR
 have hd:=h
 clear h
 have hc:=hd.cells.2.2.2.2.2.2.2.2.2.2
 have hfz:=hd.free 10
 have HD:=Lib.hid hd
 clear hd
 cases b
 ·go_enter Tryz.func80,Tryz.ntmps80
  go_wp2_with fail
  go_end0
  exact ⟨rfl,by rw[CSt.fails_no];exact HD.out,Only.refl _ _,fun _=>rfl⟩
 ·by_cases h0:st.e=0
  ·have hF:Hid (st.fails true e={ st with e:=e }):=by show _=_;simp[CSt.fails,h0]
   have h0':(st.e == 0)=true:=by simpa using h0
   clear h0
   go_enter Tryz.func80,Tryz.ntmps80
   go_wp2_with fail
   go_end0
   refine ⟨rfl,?_,(Only.refl _ _).setCell 10 _,fun h=>by cases h⟩
   rw[hF.out]
   exact HD.out.setE e
  ·have hF:Hid (st.fails true e=st):=by show _=_;simp[CSt.fails,h0]
   have h0':(st.e == 0)=false:=by simpa using h0
   clear h0
   go_enter Tryz.func80,Tryz.ntmps80
   go_wp2_with fail
   go_end0
   exact ⟨rfl,by rw[hF.out];exact HD.out,Only.refl _ _,fun _=>rfl⟩
set_option maxRecDepth 100000 in
theorem core_word_r {B:Nat}{w:World}{r:Nat}{st:CSt}{rv cv lv:Value}{mr mc ms:Nat}{rvs:List RowV}(h:RD B w r st rv cv lv mr mc ms rvs):Calls Tryz.prog 144 #[.pointer (some ⟨r,0,none⟩)] w (WordedR B r st rv cv mr mc ms rvs w):=by
 unfold WordedR
 have CF:Hid (∀ b,Calls Tryz.prog 80 #[.pointer (some ⟨r,0,none⟩),.bool b,.int .i64 1] w (NotedR B r st rv cv lv mr mc ms rvs b 1 w)):=fun b=>core_fails_r h b 1
 have hd:=h
 have hw:=hd.words
 obtain ⟨A,c,rfl,hlc,hcell⟩:=hw
 have hc:=hd.cells.2.2.2.2.2.2.2.2.2.1
 have HD:=Lib.hid hd
 have HC:=Lib.hid hcell
 clear hd hcell h
 rcases hl:st.l with _|⟨s,l2⟩
 ·have hW:Hid (st.word=([],st.fails true 1)):=by
   show _=_
   unfold CSt.word
   rw[hl]
   simp only[List.isEmpty_nil]
   rw[if_neg]
   unfold CSt.fails
   by_cases h0:st.e=0
   ·simp[h0]
   ·simp[h0]
  have hne:Hid (((st.fails true 1).e != 0)=true):=by
   show _=_
   unfold CSt.fails
   by_cases h0:st.e=0
   ·simp[h0]
   ·simp[h0]
  have HL:=Lib.hid hl
  rw[hl]at hc
  have hz:(([]:List Txt).length:Nat)=0:=rfl
  rw[hz]at hc
  clear hl hz
  go_enter Tryz.func144,Tryz.ntmps144
  go_wp2_with fail
  refine (CF.out _).mono ?_
  rintro e w1 ⟨rfl,hd1,hb1,_⟩
  have hc1:=hd1.cells.2.2.2.2.2.2.2.2.2.2
  have hne1:=hne.out
  have HD1:=Lib.hid hd1
  clear hd1
  go_wp2_with fail
  go_ret
  exact ⟨by rw[hW.out];rfl,by rw[hW.out];exact ⟨_,HD1.out⟩,hb1⟩
 ·obtain ⟨g,o,rfl,hgB,hc0,_⟩:=HC.out 0 s (by rw[hl];rfl)
  rw[Nat.zero_mul,Nat.add_zero]at hc0
  unfold StrR at hc0
  rw[hl]at hc hlc
  rw[List.length_cons]at hc hlc
  have hz:((l2.length:Int)+1 == 0)=false:=by rw[beq_eq_false_iff_ne];omega
  have HL:=Lib.hid hl
  have HF:Hid (st.fails false 1=st):=CSt.fails_no st 1
  have hcE:=HD.out.cells.2.2.2.2.2.2.2.2.2.2
  by_cases h0:st.e=0
  ·have hW:Hid (st.word=(s,{ st with l:=l2 })):=by
    show _=_
    unfold CSt.word
    rw[hl]
    simp[CSt.fails,h0,hl]
   have hne:(st.e != 0)=false:=by simp[h0]
   have hfz:=HD.out.free 9
   have hLW:Hid (StrsLow B w (.slice (some ⟨g,o,none⟩) (l2.length+1) c) (s :: l2)):=by
    have:=HD.out.words
    rw[hl]at this
    exact this
   clear hl h0
   go_enter Tryz.func144,Tryz.ntmps144
   go_wp2_with fail
   refine (CF.out _).mono ?_
   rintro e w1 ⟨rfl,_,_,hsame⟩
   obtain rfl:=hsame rfl
   clear CF HC HF hsame
   go_wp2_with fail
   ·go_ret
    exact ⟨by rw[hW.out];rfl,by rw[hW.out];exact ⟨_,HD.out.setL (low_none (by omega) (by omega))⟩,(Only.refl _ _).setCell 9 _⟩
   ·go_ret
    exact ⟨by rw[hW.out];rfl,by rw[hW.out];exact ⟨_,HD.out.setL (low_tail hLW.out)⟩,(Only.refl _ _).setCell 9 _⟩
  ·have hW:Hid (st.word=([],st)):=by
    show _=_
    unfold CSt.word
    rw[hl]
    simp[CSt.fails,h0]
   have hne:(st.e != 0)=true:=by simp[h0]
   clear hl h0
   go_enter Tryz.func144,Tryz.ntmps144
   go_wp2_with fail
   refine (CF.out _).mono ?_
   rintro e w1 ⟨rfl,_,_,hsame⟩
   obtain rfl:=hsame rfl
   clear CF HC HF hsame
   go_wp2_with fail
   go_ret
   exact ⟨by rw[hW.out];rfl,by rw[hW.out];exact ⟨_,HD.out⟩,Only.refl _ _⟩
end Go.Proofs.YtjipjfoambbofaaGreatDoor
end
