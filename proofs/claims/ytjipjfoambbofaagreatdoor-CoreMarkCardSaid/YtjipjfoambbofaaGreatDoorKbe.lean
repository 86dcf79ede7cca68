/- Package core's reader: what a line keeps, and what is told in the end. -/
import Derived.Test.YtjipjfoambbofaaGreatDoorKbc
import Derived.Test.YtjipjfoambbofaaGreatDoorKbd
import Derived.Test.YtjipjfoambbofaaGreatDoorKax
import Derived.Test.YtjipjfoambbofaaGreatDoorKay
set_option linter.unusedVariables false
set_option linter.unusedSimpArgs false
section
namespace Vic
open Go Go.RowKit
structure LI (st:CSt) (f r c:Nat):Prop where
 good:st.Good
 fat:st.Fat f
 rows:st.c.rows.length≤r
 cols:st.c.cols.length≤c
 lo : -1≤st.at_
 hi:st.at_≤7
theorem LI.eq {a b:CSt}{f r c:Nat}(h:LI b f r c) (h1:a.c.rows=b.c.rows) (h2:a.c.cols=b.c.cols) (h3:a.rows=b.rows) (h4:a.cols=b.cols) (h5 : -1≤a.at_) (h6:a.at_≤7):LI a f r c:=by
 refine ⟨?_,?_,by rw[h1];exact h.rows,by rw[h2];exact h.cols,h5,h6⟩
 ·unfold CSt.Good
  rw[h1,h2,h3,h4];exact h.good
 ·unfold CSt.Fat
  rw[h1];exact h.fat
theorem LI.same {a b:CSt}{f r c:Nat}(h:LI b f r c) (k:a.Same b):LI a f r c:=
 h.eq (by rw[k.1]) (by rw[k.1]) k.2.2.1 k.2.2.2.1 (by rw[k.2.1];exact h.lo) (by rw[k.2.1];exact h.hi)
theorem LI.mono {a:CSt}{f r c f' r' c':Nat}(h:LI a f r c) (h1:f≤f') (h2:r≤r') (h3:c≤c'):LI a f' r' c':=
 ⟨h.good,h.fat.mono h1,Nat.le_trans h.rows h2,Nat.le_trans h.cols h3,h.lo,h.hi⟩
theorem LI.fails {a:CSt}{f r c:Nat}(h:LI a f r c) (b:Bool) (e:Int):LI (a.fails b e) f r c:=h.same (CSt.fails_same _ _ _)
theorem LI.word {a:CSt}{f r c:Nat}(h:LI a f r c):LI a.word.2 f r c:=h.same (CSt.word_same _)
theorem LI.put {a:CSt}{f r c:Nat}(h:LI a f r c) (row:Int) (q:Rat):LI (a.put row q) (f+1) r c:=by
 have s:=CSt.put_shape a row q
 exact ⟨s.good h.good,h.fat.put row q,by rw[s.1];exact h.rows,by rw[s.2.1];exact h.cols,by rw[s.2.2.2.2];exact h.lo,by rw[s.2.2.2.2];exact h.hi⟩
theorem LI.pair {a:CSt}{f r c:Nat}(h:LI a f r c):LI a.pair (f+1) r c:=by
 unfold CSt.pair
 dsimp only
 have hq:=(((h.word.fails ((atT a.word.2.rows a.word.1).isNone || a.word.2.seen.contains a.word.1) 4).fails (decide ((atT a.word.2.rows a.word.1).getD 0<0) && (a.word.2.fails ((atT a.word.2.rows a.word.1).isNone || a.word.2.seen.contains a.word.1) 4).at_ != 3) 7).same (CSt.number_same _))
 split
 ·exact hq.mono (Nat.le_succ _) (Nat.le_refl _) (Nat.le_refl _)
 ·refine LI.put ?_ _ _
  exact hq.eq rfl rfl rfl rfl hq.lo hq.hi
theorem LI.pairs {a:CSt}{f r c:Nat}(h:LI a f r c):LI a.pairs (f+2) r c:=by
 unfold CSt.pairs
 dsimp only
 split
 ·exact h.pair.pair
 ·exact h.pair.mono (Nat.le_succ _) (Nat.le_refl _) (Nat.le_refl _)
theorem atT_cons (l:List (Txt × Int)) (s t:Txt) (v:Int):atT ((s,v) :: l) t=if s=t then some v else atT l t:=by
 unfold atT
 rw[List.find?_cons]
 by_cases h:s=t
 ·simp[h]
 ·rw[if_neg h]
  have:(s == t)=false:=beq_eq_false_iff_ne.2 h
  simp[this]
theorem LI.rowEnd {a:CSt}{f r c:Nat}(h:LI a f r c) (k:Int) (s:Txt):LI (a.rowEnd k s) f (r+1) c:=by
 unfold CSt.rowEnd
 split
 ·exact h.mono (Nat.le_refl _) (Nat.le_succ _) (Nat.le_refl _)
 ·split
  ·refine ⟨⟨fun t i hi=>?_,h.good.2⟩,h.fat,Nat.le_succ_of_le h.rows,h.cols,h.lo,h.hi⟩
   rw[show ({ a with c:={ a.c with obj:=s },rows:=(s,-1) :: a.rows }:CSt).rows=(s,-1) :: a.rows from rfl,atT_cons]at hi
   split at hi
   ·injection hi with hi
    subst hi
    exact ⟨Int.le_refl _,by show (-1:Int)<(a.c.rows.length:Int);omega⟩
   ·exact h.good.1 t i hi
  ·refine ⟨⟨fun t i hi=>?_,h.good.2⟩,fun x hx=>?_,?_,h.cols,h.lo,h.hi⟩
   ·have hlen:(a.c.rows ++ [(⟨s,k,[],[48],[]⟩:RowM)]).length=a.c.rows.length+1:=by simp
    show -1≤i∧i<((a.c.rows ++ [(⟨s,k,[],[48],[]⟩:RowM)]).length:Int)
    rw[hlen]
    rw[show ({ a with rows:=(s,(a.c.rows.length:Nat)) :: a.rows,c:={ a.c with rows:=a.c.rows ++ [(⟨s,k,[],[48],[]⟩:RowM)] } }:CSt).rows=(s,((a.c.rows.length:Nat):Int)) :: a.rows from rfl,atT_cons]at hi
    split at hi
    ·injection hi with hi
     omega
    ·have:=h.good.1 t i hi
     omega
   ·rcases List.mem_append.1 hx with hx|hx
    ·exact h.fat x hx
    ·rw[List.mem_singleton.1 hx];exact Nat.zero_le _
   ·show (a.c.rows ++ [(⟨s,k,[],[48],[]⟩:RowM)]).length≤r+1
    have:=h.rows
    simp;omega
theorem LI.row {a:CSt}{f r c:Nat}(h:LI a f r c):LI a.row f (r+1) c:=by
 unfold CSt.row
 dsimp only
 exact LI.rowEnd (LI.fails (LI.fails (LI.word (LI.fails (LI.fails (LI.word (LI.fails h _ _)) _ _) _ _)) _ _) _ _) _ _
theorem LI.marks {a:CSt}{f r c:Nat}(h:LI a f r c):LI a.marks f r c:=by
 unfold CSt.marks
 dsimp only
 have h1:LI ({ a with l:=a.l.drop 2 }:CSt) f r c:=h.eq rfl rfl rfl rfl h.lo h.hi
 have h2:=LI.fails (LI.fails (LI.word h1) (({ a with l:=a.l.drop 2 }:CSt).word.1 != intorgM && ({ a with l:=a.l.drop 2 }:CSt).word.1 != intendM) 1) ((({ a with l:=a.l.drop 2 }:CSt).word.1 == intorgM) == (({ a with l:=a.l.drop 2 }:CSt).word.2.fails (({ a with l:=a.l.drop 2 }:CSt).word.1 != intorgM && ({ a with l:=a.l.drop 2 }:CSt).word.1 != intendM) 1).integer) 5
 exact h2.eq rfl rfl rfl rfl h2.lo h2.hi
theorem LI.addCol {a:CSt}{f r c:Nat}(h:LI a f r c) (s:Txt):LI (a.addCol s) f r (c+1):=
 ⟨CSt.addCol_good h.good s,h.fat,h.rows,by have:=h.cols;simp[CSt.addCol];omega,h.lo,h.hi⟩
theorem LI.column {a:CSt}{f r c:Nat}(h:LI a f r c):LI a.column (f+2) r (c+1):=by
 unfold CSt.column
 dsimp only
 have h1:=h.fails (![3,5].contains (a.l.length:Int)) 1
 split
 ·exact (LI.marks h1).mono (by omega) (Nat.le_refl _) (Nat.le_succ _)
 ·split
  ·exact (LI.pairs (LI.word h1)).mono (Nat.le_refl _) (Nat.le_refl _) (Nat.le_succ _)
  ·split
   ·exact (LI.fails (LI.fails (LI.word h1) _ _) _ _).mono (by omega) (Nat.le_refl _) (Nat.le_succ _)
   ·exact LI.pairs (LI.addCol (LI.fails (LI.fails (LI.word h1) _ _) _ _) _)
theorem LI.side {a:CSt}{f r c:Nat}(h:LI a f r c):LI a.side (f+2) r c:=by
 unfold CSt.side
 dsimp only
 exact LI.pairs (LI.fails (LI.word (LI.fails h _ _)) _ _)
theorem LI.colSet {a:CSt}{f r c:Nat}(h:LI a f r c) (i:Nat) (g:ColM→ColM):LI (a.colSet i g) f r c:=by
 refine ⟨⟨h.good.1,fun s j hj=>?_⟩,h.fat,h.rows,by rw[CSt.colSet_len];exact h.cols,h.lo,h.hi⟩
 rw[CSt.colSet_len]
 exact h.good.2 s j hj
theorem LI.bound {a:CSt}{f r c:Nat}(h:LI a f r c) (inf:Int):LI (a.bound inf).2 f r c:=by
 unfold CSt.bound
 dsimp only
 split
 ·exact LI.fails (LI.word h) _ _
 ·exact LI.fails (LI.word h) _ _
theorem LI.boundsEnd {a:CSt}{f r c:Nat}(h:LI a f r c) (kd:Txt) (i:Nat):LI (a.boundsEnd kd i) f r c:=by
 unfold CSt.boundsEnd
 repeat' split
 all_goals first
  | exact h
  | exact LI.colSet h _ _
  | exact LI.colSet (LI.bound h _) _ _
theorem LI.bounds {a:CSt}{f r c:Nat}(h:LI a f r c):LI a.bounds f r c:=by
 unfold CSt.bounds
 dsimp only
 have h1:LI (if a.l.headD []∈longM then a.many [4]else if a.l.headD []∈aloneM then a.many [3]else a.fails true 1) f r c:=by
  split
  ·exact LI.fails h _ _
  ·split
   ·exact LI.fails h _ _
   ·exact LI.fails h _ _
 generalize (if a.l.headD []∈longM then a.many [4]else if a.l.headD []∈aloneM then a.many [3]else a.fails true 1)=a1 at *
 have h2:=LI.fails (LI.word (LI.fails (LI.word (LI.word h1)) (!nameB a1.word.2.word.1) 4)) (atT (a1.word.2.word.2.fails (!nameB a1.word.2.word.1) 4).word.2.cols (a1.word.2.word.2.fails (!nameB a1.word.2.word.1) 4).word.1).isNone 4
 generalize ((a1.word.2.word.2.fails (!nameB a1.word.2.word.1) 4).word.2.fails (atT (a1.word.2.word.2.fails (!nameB a1.word.2.word.1) 4).word.2.cols (a1.word.2.word.2.fails (!nameB a1.word.2.word.1) 4).word.1).isNone 4)=a2 at *
 by_cases h0:a2.e≠0
 ·rw[if_pos h0];exact h2
 ·rw[if_neg h0]
  exact LI.boundsEnd h2 a1.word.1 _
theorem LI.head {a:CSt}{f r c:Nat}(h:LI a f r c):LI a.head f r c:=by
 have hk:=idxT_ge headsM a.word.1
 have hl:(headsM.length:Int)=8:=by decide
 rw[hl]at hk
 unfold CSt.head
 dsimp only
 have h1:∀ b e,LI (a.word.2.fails b e) f r c:=fun b e=>LI.fails (LI.word h) b e
 generalize idxT headsM a.word.1=k at *
 have fin:∀ x:CSt,LI x f r c→LI ({ x with at_:=k,seen:=[] }:CSt) f r c:=fun x hx=>hx.eq rfl rfl rfl rfl hk.1 (by show k≤7;omega)
 refine fin _ (LI.fails (LI.fails ?_ _ _) _ _)
 split
 ·have h2:=LI.word (h1 (!(k == a.word.2.at_+1 || k == 6 && (a.word.2.at_ == 4 || a.word.2.at_ == 5) || k == 7 && (a.word.2.at_ == 4 || a.word.2.at_ == 5 || a.word.2.at_ == 6)) || k == 0) 5)
  refine LI.fails (LI.fails ?_ _ _) _ _
  exact h2.eq rfl rfl rfl rfl h2.lo h2.hi
 ·exact h1 _ _
theorem LI.line {a:CSt}{f r c:Nat}(h:LI a f r c) (x:LineM):LI (a.line x) (f+2) (r+1) (c+1):=by
 unfold CSt.line
 dsimp only
 have h1:LI ({ a with l:=x.words }:CSt) f r c:=h.eq rfl rfl rfl rfl h.lo h.hi
 split
 ·exact h1.head.mono (by omega) (by omega) (by omega)
 ·split
  ·exact h1.row.mono (by omega) (by omega) (by omega)
  ·split
   ·exact h1.column.mono (by omega) (by omega) (by omega)
   ·split
    ·exact h1.side.mono (by omega) (by omega) (by omega)
    ·split
     ·exact h1.bounds.mono (by omega) (by omega) (by omega)
     ·exact (h1.fails true 5).mono (by omega) (by omega) (by omega)
theorem LI.zero:LI CSt.zero 0 0 0:=
 ⟨⟨fun s i h=>(by cases h),fun s i h=>(by cases h)⟩,fun x h=>(by cases h),Nat.le_refl _,Nat.le_refl _,by decide,by decide⟩
theorem own_cs {w:World}{B:Nat}{v:Value}{l:List CoefM}(h:Own w B 83 2 v l.length (l.flatMap encCf)):CsIn w v l:=by
 obtain ⟨A,c,hA,hc,hcells⟩:=h.sl
 refine ⟨A,c,hA,hc,fun i x hx=>?_⟩
 obtain ⟨g,hg,h0⟩:=hcells _ _ (fl_get (enc:=encCf) encCf_len hx (k:=0) (by omega))
 obtain ⟨g',hg',h1⟩:=hcells _ _ (fl_get (enc:=encCf) encCf_len hx (k:=1) (by omega))
 rw[hg]at hg'
 injection hg' with hg'
 injection hg' with hg'
 subst hg'
 exact ⟨g,0,hg,by simpa using h0,by simpa using h1⟩
theorem core_in {B:Nat}{w:World}{rv cv:Value}{rvs:List RowV}{c:CoreM}(hr:RowsOwn w B rv rvs) (he:rvs.map (·.1)=c.rows) (hcl:ColsOwn w B cv c.cols):CoreIn w (.agg #[.string ⟨c.name.toArray⟩,.string ⟨c.obj.toArray⟩,rv,cv]) c:=by
 refine ⟨rv,cv,rfl,?_,?_⟩
 ·have hl:rvs.length=c.rows.length:=by
   have:=congrArg List.length he
   simpa using this
  obtain ⟨A,cc,hA,hc,hcells⟩:=hr.rows.sl
  refine ⟨A,cc,by rw[hA,hl],by rw[← hl];exact hc,fun i x hi=>?_⟩
  have hil:i<rvs.length:=by rw[hl];exact (List.getElem?_eq_some_iff.1 hi).1
  obtain ⟨x',cvi,hv⟩:∃ x' cvi,rvs[i]?=some (x',cvi):=⟨rvs[i].1,rvs[i].2,by simp[hil]⟩
  have hx:x'=x:=by
   have:=congrArg (fun l=>l[i]?) he
   simp only[List.getElem?_map,hv,Option.map_some,hi,Option.some.injEq]at this
   exact this
  subst hx
  have hk:∀ k (hk:k<5),∃ g,A=some ⟨g,0,none⟩∧w.cell? ⟨g,i*5+k,none⟩=(encRow (x',cvi))[k]?:=fun k hk=>by
   have hke:k<(encRow (x',cvi)).length:=hk
   obtain ⟨g,hg,h1⟩:=hcells _ _ ((fl_get (enc:=encRow) encRow_len hv hk).trans (List.getElem?_eq_getElem hke))
   exact ⟨g,hg,h1.trans (List.getElem?_eq_getElem hke).symm⟩
  obtain ⟨g,hg,_⟩:=hk 0 (by omega)
  have hh:∀ k,k<5→w.cell? ⟨g,i*5+k,none⟩=(encRow (x',cvi))[k]?:=fun k h5=>by
   obtain ⟨g',hg',h1⟩:=hk k h5
   rw[hg]at hg'
   injection hg' with hg'
   injection hg' with hg'
   rw[hg'];exact h1
  have hown:Own w B 83 2 cvi x'.coef.length (x'.coef.flatMap encCf):=by
   have:=hr.coefs.own i hil
   simpa [rvV,rvN,rvX,hv]using this
  exact ⟨g,0,hg,cvi,(by rw[Nat.zero_add];exact hh 0 (by omega)),(by rw[Nat.zero_add];exact hh 1 (by omega)),(by rw[Nat.zero_add];exact hh 2 (by omega)),(by rw[Nat.zero_add];exact hh 3 (by omega)),(by rw[Nat.zero_add];exact hh 4 (by omega)),own_cs hown⟩
 ·obtain ⟨A,cc,hA,hc,hcells⟩:=hcl.sl
  refine ⟨A,cc,hA,hc,fun i x hx=>?_⟩
  have hk:∀ k (hk:k<5),∃ g,A=some ⟨g,0,none⟩∧w.cell? ⟨g,i*5+k,none⟩=(encCol x)[k]?:=fun k hk=>by
   have hke:k<(encCol x).length:=hk
   obtain ⟨g,hg,h1⟩:=hcells _ _ ((fl_get (enc:=encCol) encCol_len hx hk).trans (List.getElem?_eq_getElem hke))
   exact ⟨g,hg,h1.trans (List.getElem?_eq_getElem hke).symm⟩
  obtain ⟨g,hg,h0⟩:=hk 0 (by omega)
  have hh:∀ k,k<5→w.cell? ⟨g,i*5+k,none⟩=(encCol x)[k]?:=fun k h5=>by
   obtain ⟨g',hg',h1⟩:=hk k h5
   rw[hg]at hg'
   injection hg' with hg'
   injection hg' with hg'
   rw[hg'];exact h1
  exact ⟨g,0,hg,(by rw[Nat.zero_add];exact hh 0 (by omega)),(by rw[Nat.zero_add];exact hh 1 (by omega)),(by rw[Nat.zero_add];exact hh 2 (by omega)),(by rw[Nat.zero_add];exact hh 3 (by omega)),(by rw[Nat.zero_add];exact hh 4 (by omega))⟩
theorem core_kept {B:Nat}{w:World}{r:Nat}{st:CSt}{rv cv lv:Value}{mr mc ms:Nat}{rvs:List RowV}(h:RD B w r st rv cv lv mr mc ms rvs) {b:Nat}{cs:Array Value}(hb:Row w b 29 cs) {w':World}(hw:∀ g,g≠b→w'.heap[g]?=w.heap[g]?):CoreIn w' (.agg #[.string ⟨st.c.name.toArray⟩,.string ⟨st.c.obj.toArray⟩,rv,cv]) st.c:=
 core_in (h.rows.stay fun g cur hc=>hw g (by rcases hc with hc|hc<;>exact ne_of_type hc hb (by decide))) h.rowsEq (h.cols.stay fun g hg=>hw g (by obtain ⟨cur,hc⟩:=h.cols.typed hg;exact ne_of_type hc hb (by decide)))
end Vic
end
section
namespace Go.Proofs.YtjipjfoambbofaaGreatDoor
open Go.RowKit Vic
set_option maxRecDepth 100000 in
set_option maxHeartbeats 8000000 in
theorem core_line {B:Nat}{w:World}{r:Nat}{st:CSt}(h:CR B w r st) (hB:B≤w.heap.size) (hT:∀ w',Below B w w'→TabE w') {f n c:Nat}(hi:LI st f n c) (hf:f+2≤1000000000) (hn:n≤1000000000) (hc:c≤1000000) (x:LineM) (v:Value) (hv:StrsLow B w v x.words) (hne:x.words≠[]) :
 Calls Tryz.prog 25 #[.pointer (some ⟨r,0,none⟩),.agg #[.int .i64 (x.no:Nat),.bool x.head,v]] w (Turns B r (.tuple #[]) (st.line x) w):=by
 unfold Turns
 have hr:=h.base
 have hrl:=h.lt
 obtain ⟨A,cp,rfl,hlc,_⟩:=id hv
 obtain ⟨no,hd,ws⟩:=x
 dsimp only at hv hne hlc ⊢
 obtain ⟨st0,h0⟩:∃ s,s=({ st with l:=ws }:CSt):=⟨_,rfl⟩
 have hM:Hid (st.line ⟨no,hd,ws⟩=if hd=true then st0.head else if st.at_=2 then st0.row else if st.at_=3 then st0.column else if st.at_=4∨st.at_=5 then st0.side else if st.at_=6 then st0.bounds else st0.fails true 5):=by
  show _=_
  rw[h0];rfl
 obtain ⟨wa,hwa⟩:∃ X,X=w.alloc (.cells #[.int .i64 (no:Nat),.bool hd,.slice A ws.length cp] 80):=⟨_,rfl⟩
 have hba:Below w.heap.size w wa:=by rw[hwa];exact (Below.refl _ _).alloc (Nat.le_refl _) _
 have hka:=h.keep hba
 have hfa:=hka.free 9
 obtain ⟨Al,cl,hla,_,_⟩:=hka.lv
 obtain ⟨w1,hw1⟩:∃ X,X=wa.setCell ⟨r,9,none⟩ (.slice A ws.length cp):=⟨_,rfl⟩
 have hr1:CR B w1 r st0:=by rw[hw1,h0];exact hka.setL (hv.keep (hba.mono hB))
 have b1:Hid (Below B w w1∧Fr w w1):=by
  refine Lib.hid ⟨?_,?_⟩
  ·rw[hw1];exact (hba.mono hB).trans (below_set hr)
  ·rw[hw1];exact (Fr.below hba).trans (hka.frame fun g _ hg=>set_other _ r 9 _ g hg)
 have hB1:B≤w1.heap.size:=Nat.le_trans hB b1.out.1.size
 have hT1:∀ w',Below B w1 w'→TabE w':=fun w' hb=>hT w' (b1.out.1.trans hb)
 have hi0:LI st0 f n c:=by rw[h0];exact hi.eq rfl rfl rfl rfl hi.lo hi.hi
 have ha0:st0.at_=st.at_:=by rw[h0]
 have hl0:st0.l≠[]:=by rw[h0];exact hne
 have hat1:=hr1.atC
 rw[ha0]at hat1
 have hz:(wa.setCell ⟨r,9,none⟩ (.slice A ws.length cp))=w1:=hw1.symm
 have C1:=Lib.hid (core_head hr1 hB1 ⟨hi0.lo,hi0.hi⟩)
 have C2:=Lib.hid (core_row hr1 hB1 (Nat.le_trans hi0.rows hn))
 have C3:Hid (st.at_=3→Calls Tryz.prog 77 #[.pointer (some ⟨r,0,none⟩)] w1 (Turns B r (.tuple #[]) st0.column w1)):=Lib.hid fun h3=>core_column hr1 hB1 hT1 hi0.good hi0.fat hf (ha0.trans h3) (Nat.le_trans hi0.cols hc)
 have C4:Hid (st.at_=4∨st.at_=5→Calls Tryz.prog 78 #[.pointer (some ⟨r,0,none⟩)] w1 (Turns B r (.tuple #[]) st0.side w1)):=Lib.hid fun h3=>core_side hr1 hB1 hT1 hi0.good hi0.fat (ha0▸h3)
 have C6:=Lib.hid (core_bounds hr1 hB1 hT1 hi0.good hl0)
 have CF:=Lib.hid (core_fails hr1 true 5)
 have HR1:=Lib.hid hr1
 have hrow:Row wa w.heap.size 80 #[.int .i64 (no:Nat),.bool hd,.slice A ws.length cp]:=by rw[hwa];exact Row.new _ _ _
 have hb1:=hrow.cell 1
 have hb2:=hrow.cell 2
 have hb1':w1.cell? ⟨w.heap.size,1,none⟩=some (.bool hd):=by
  rw[hw1,World.cell?_setCell_other _ _ _ _ (by simp)]
  exact hb1
 have hwa2:w.alloc (.cells #[.int .i64 (no:Nat),.bool hd,.slice A ws.length cp] 80)=wa:=hwa.symm
 clear h h0 hwa hw1 hka hi hi0 hf hn hc hT hT1 hr1 hv hrow ha0 hl0 hne
 go_enter Tryz.func25,Tryz.ntmps25
 go_upto_region 2 with fail
 try rw[hz]
 clear hz hwa2 hla hfa hb1 hb2
 cases hd
 ·have hq:(Hid (st.at_=2)∧(st.at_ == 2)=true)∨(Hid (st.at_=3)∧(st.at_ == 2)=false∧(st.at_ == 3)=true)∨(Hid (st.at_=4)∧(st.at_ == 2)=false∧(st.at_ == 3)=false∧(st.at_ == 4)=true)∨(Hid (st.at_=5)∧(st.at_ == 2)=false∧(st.at_ == 3)=false∧(st.at_ == 4)=false∧(st.at_ == 5)=true)∨(Hid (st.at_=6)∧(st.at_ == 2)=false∧(st.at_ == 3)=false∧(st.at_ == 4)=false∧(st.at_ == 5)=false∧(st.at_ == 6)=true)∨(Hid (st.at_≠2∧st.at_≠3∧st.at_≠4∧st.at_≠5∧st.at_≠6)∧(st.at_ == 2)=false∧(st.at_ == 3)=false∧(st.at_ == 4)=false∧(st.at_ == 5)=false∧(st.at_ == 6)=false):=by
   by_cases a2:st.at_=2
   ·exact .inl ⟨a2,by simp[a2]⟩
   ·by_cases a3:st.at_=3
    ·exact .inr (.inl ⟨a3,by simp[a3],by simp[a3]⟩)
    ·by_cases a4:st.at_=4
     ·exact .inr (.inr (.inl ⟨a4,by simp[a4],by simp[a4],by simp[a4]⟩))
     ·by_cases a5:st.at_=5
      ·exact .inr (.inr (.inr (.inl ⟨a5,by simp[a5],by simp[a5],by simp[a5],by simp[a5]⟩)))
      ·by_cases a6:st.at_=6
       ·exact .inr (.inr (.inr (.inr (.inl ⟨a6,by simp[a6],by simp[a6],by simp[a6],by simp[a6],by simp[a6]⟩))))
       ·exact .inr (.inr (.inr (.inr (.inr ⟨⟨a2,a3,a4,a5,a6⟩,by simp[a2],by simp[a3],by simp[a4],by simp[a5],by simp[a6]⟩))))
  generalize hav:st.at_=av at *
  clear hav
  have fin:∀ (s:CSt) (w2:World),Hid (st.line ⟨no,false,ws⟩=s)→CR B w2 r s∧Below B w1 w2∧w1.heap.size≤w2.heap.size∧Fr w1 w2→Hid (CR B w2 r (st.line ⟨no,false,ws⟩)∧Below B w w2∧w.heap.size≤w2.heap.size∧Fr w w2):=fun s w2 e ⟨h1,h2,h3,h4⟩=>⟨h1.cast e.out.symm,b1.out.1.trans h2,(b1.out.1.trans h2).size,b1.out.2.trans h4⟩
  have FIN:=Lib.hid fin
  clear fin
  rcases hq with ⟨q,e2⟩|⟨q,e2,e3⟩|⟨q,e2,e3,e4⟩|⟨q,e2,e3,e4,e5⟩|⟨q,e2,e3,e4,e5,e6⟩|⟨q,e2,e3,e4,e5,e6⟩
  ·have HE:Hid (st.line ⟨no,false,ws⟩=st0.row):=by show _=_;rw[hM.out,if_neg (by simp),if_pos q.out]
   go_wp2_with fail
   refine C2.out.mono ?_
   rintro e w2 ⟨rfl,h1,h2,h3,h4⟩
   have HF:=FIN.out _ w2 HE ⟨h1,h2,h3,h4⟩
   clear h1 h2 h3 h4
   go_wp2_with fail
   go_end0
   exact ⟨rfl,HF.out⟩
  ·have HE:Hid (st.line ⟨no,false,ws⟩=st0.column):=by show _=_;rw[hM.out,if_neg (by simp),if_neg (by rw[q.out];decide),if_pos q.out]
   have C:=Lib.hid (C3.out q.out)
   go_wp2_with fail
   refine C.out.mono ?_
   rintro e w2 ⟨rfl,h1,h2,h3,h4⟩
   have HF:=FIN.out _ w2 HE ⟨h1,h2,h3,h4⟩
   clear h1 h2 h3 h4
   go_wp2_with fail
   go_end0
   exact ⟨rfl,HF.out⟩
  ·have HE:Hid (st.line ⟨no,false,ws⟩=st0.side):=by show _=_;rw[hM.out,if_neg (by simp),if_neg (by rw[q.out];decide),if_neg (by rw[q.out];decide),if_pos (.inl q.out)]
   have C:=Lib.hid (C4.out (.inl q.out))
   go_wp2_with fail
   refine C.out.mono ?_
   rintro e w2 ⟨rfl,h1,h2,h3,h4⟩
   have HF:=FIN.out _ w2 HE ⟨h1,h2,h3,h4⟩
   clear h1 h2 h3 h4
   go_wp2_with fail
   go_end0
   exact ⟨rfl,HF.out⟩
  ·have HE:Hid (st.line ⟨no,false,ws⟩=st0.side):=by show _=_;rw[hM.out,if_neg (by simp),if_neg (by rw[q.out];decide),if_neg (by rw[q.out];decide),if_pos (.inr q.out)]
   have C:=Lib.hid (C4.out (.inr q.out))
   go_wp2_with fail
   refine C.out.mono ?_
   rintro e w2 ⟨rfl,h1,h2,h3,h4⟩
   have HF:=FIN.out _ w2 HE ⟨h1,h2,h3,h4⟩
   clear h1 h2 h3 h4
   go_wp2_with fail
   go_end0
   exact ⟨rfl,HF.out⟩
  ·have HE:Hid (st.line ⟨no,false,ws⟩=st0.bounds):=by show _=_;rw[hM.out,if_neg (by simp),if_neg (by rw[q.out];decide),if_neg (by rw[q.out];decide),if_neg (by rw[q.out];decide),if_pos q.out]
   go_wp2_with fail
   refine C6.out.mono ?_
   rintro e w2 ⟨rfl,h1,h2,h3,h4⟩
   have HF:=FIN.out _ w2 HE ⟨h1,h2,h3,h4⟩
   clear h1 h2 h3 h4
   go_wp2_with fail
   go_end0
   exact ⟨rfl,HF.out⟩
  ·have HE:Hid (st.line ⟨no,false,ws⟩=st0.fails true 5):=by
    obtain ⟨a2,a3,a4,a5,a6⟩:=q.out
    show _=_;rw[hM.out,if_neg (by simp),if_neg a2,if_neg a3,if_neg (by simp[a4,a5]),if_neg a6]
   go_wp2_with fail
   refine CF.out.mono ?_
   rintro e w2 ⟨rfl,h1,h2,h3⟩
   have HF:=FIN.out _ w2 HE ⟨h1,h2.below hr,(h2.below hr).size,HR1.out.frame fun g _ hg=>h2.block g hg⟩
   clear h1 h2 h3
   go_wp2_with fail
   go_end0
   exact ⟨rfl,HF.out⟩
 ·have HE:Hid (st.line ⟨no,true,ws⟩=st0.head):=by show _=_;rw[hM.out,if_pos rfl]
  go_wp2_with fail
  refine C1.out.mono ?_
  rintro e w2 ⟨rfl,h1,h2,h3,h4⟩
  have HF:Hid (CR B w2 r (st.line ⟨no,true,ws⟩)∧Below B w w2∧w.heap.size≤w2.heap.size∧Fr w w2):=Lib.hid ⟨h1.cast HE.out.symm,b1.out.1.trans h2,(b1.out.1.trans h2).size,b1.out.2.trans h4⟩
  clear h1 h2 h3 h4
  go_wp2_with fail
  refine bodyPost_ret (results_none rfl _ _ _) rfl ?_
  exact ⟨rfl,HF.out⟩
end Go.Proofs.YtjipjfoambbofaaGreatDoor
end
section
namespace Vic
open Go Go.RowKit
theorem flds_in {p:UInt8→Bool}:∀ (s cur:Txt),∀ x∈fldsP p s cur,x.length≤cur.length+s.length∧∀ c∈x,c∈cur∨c∈s
 | [],cur,x,hx=>by
   unfold fldsP at hx
   split at hx
   ·cases hx
   ·rw[List.mem_singleton.1 hx];exact ⟨Nat.le_refl _,fun c hc=>.inl hc⟩
 | a :: s,cur,x,hx=>by
   unfold fldsP at hx
   have up:∀ cur',(∀ c∈cur',c∈cur∨c=a)→cur'.length≤cur.length+1→x∈fldsP p s cur'→x.length≤cur.length+(a :: s).length∧∀ c∈x,c∈cur∨c∈a :: s:=fun cur' h1 h2 h3=>by
    obtain ⟨k1,k2⟩:=flds_in s cur' x h3
    refine ⟨by rw[List.length_cons];omega,fun c hc=>?_⟩
    rcases k2 c hc with h|h
    ·rcases h1 c h with h|h
     ·exact .inl h
     ·subst h;exact .inr (by simp)
    ·exact .inr (by simp[h])
   split at hx
   ·split at hx
    ·exact up [] (by simp) (by simp) hx
    ·rcases List.mem_cons.1 hx with rfl|hx
     ·exact ⟨by omega,fun c hc=>.inl hc⟩
     ·exact up [] (by simp) (by simp) hx
   ·exact up (cur ++ [a]) (by simp) (by simp) hx
def OkLine (x:LineM):Prop:=x.words≠[]∧∀ s∈x.words,OkWord s
theorem lineOf_ok {no:Nat}{s:Txt}(h:lookB s=0):∀ x∈lineOf no s,OkLine x:=by
 intro x hx
 unfold lineOf at hx
 split at hx
 ·cases hx
 ·rename_i hn
  rw[List.mem_singleton.1 hx]
  refine ⟨fun e=>hn (.inl e),fun y hy=>?_⟩
  obtain ⟨h1,h2⟩:=flds_in s [] y hy
  have hl:s.length≤200:=by
   unfold lookB at h
   split at h
   ·cases h
   ·omega
  refine ⟨by simp at h1;omega,fun c hc=>?_⟩
  rcases h2 c hc with h3|h3
  ·cases h3
  ·exact look_ascii h c h3
theorem lineOf_len (no:Nat) (s:Txt):(lineOf no s).length≤1:=by unfold lineOf;split<;>simp
theorem getFrom_ok:∀ (ls:List Txt) (no:Nat) (acc:List LineM),(∀ x∈acc,OkLine x)→acc.length<no→acc.length≤2500→(∀ x∈(getFrom no ls acc).1,OkLine x)∧(getFrom no ls acc).1.length≤2500
 | [],no,acc,h1,h2,h3=>⟨h1,h3⟩
 | s :: ls,no,acc,h1,h2,h3=>by
   unfold getFrom
   split
   ·exact ⟨fun x hx=>(by cases hx),Nat.zero_le _⟩
   ·split
    ·exact ⟨fun x hx=>(by cases hx),Nat.zero_le _⟩
    ·rename_i hno hlook
     have hl:=lineOf_len no s
     have hlk:lookB s=0:=Classical.not_not.1 hlook
     refine getFrom_ok ls (no+1) _ (fun x hx=>?_) (by rw[List.length_append];omega) (by rw[List.length_append];omega)
     rcases List.mem_append.1 hx with hx|hx
     ·exact h1 x hx
     ·exact lineOf_ok hlk x hx
theorem wordsGet_ok (t:Txt):(∀ x∈(wordsGet t).1,OkLine x)∧(wordsGet t).1.length≤2500:=getFrom_ok _ 1 [] (fun x hx=>by cases hx) (by simp) (by simp)
theorem lines_low {w:World}{v:Value}{l:List Txt}(h:StrsIn w v l) (hok:∀ s∈l,OkWord s) {B:Nat}(hB:w.heap.size≤B):StrsLow B w v l:=by
 obtain ⟨A,c,h1,h2,h3⟩:=h
 refine ⟨A,c,h1,h2,fun i x hx=>?_⟩
 obtain ⟨g,o,e,h4⟩:=h3 i x hx
 exact ⟨g,o,e,Nat.lt_of_lt_of_le (block_lt h4) hB,h4,hok x (List.mem_of_getElem? hx)⟩
def CoreGot (t:Txt) (w:World) (e:Ending) (w':World):Prop:=∃ v,e=.returned (.tuple #[v,.int .i64 ((coreGet t).2.1:Nat),.int .i64 (coreGet t).2.2])∧CoreIn w' v (coreGet t).1∧Below w.heap.size w w'
theorem RD.made {B:Nat}{w:World}{r m:Nat}(hB:B≤m) (hr:B≤r) (h1:StrMap w m fun _=>none) (h2:StrMap w (m+1) fun _=>none) (h3:StrMap w (m+2) fun _=>none)
 (hb:Row w r 91 #[.string ⟨#[]⟩,.string ⟨#[]⟩,.slice none 0 0,.slice none 0 0,.int .i64 0,.map (some m),.map (some (m+1)),.map (some (m+2)),.bool false,.slice none 0 0,.int .i64 0]) :
 RD B w r CSt.zero (.slice none 0 0) (.slice none 0 0) (.slice none 0 0) m (m+1) (m+2) []:=by
 refine ⟨hb,hr,hB,by omega,by omega,by omega,by omega,by omega,h1.congr fun s=>rfl,h2.congr fun s=>rfl,h3.congr fun s=>inSet_nil s,⟨?_,?_⟩,rfl,?_,low_none rfl rfl⟩
 ·exact OwnK.nil_ _ _ _ _ _
 ·exact ⟨fun i hi=>absurd hi (Nat.not_lt_zero _),fun i j g hi=>absurd hi (Nat.not_lt_zero _)⟩
 ·exact OwnK.nil_ _ _ _ _ _
end Vic
namespace Go.Proofs.YtjipjfoambbofaaGreatDoor
open Go.RowKit Vic
theorem und_Core0:(match Tryz.prog.underlying 29 with|some (.struct _)=>true|_=>false)=true:=by kernel_rfl
theorem und_Core:∃ d,Tryz.prog.underlying 29=some d∧(match d with | .struct _ | .array _ _=>true|_=>false)=true:=by
 have h:=und_Core0
 cases hd:Tryz.prog.underlying 29 with
 | none=>rw[hd]at h;cases h
 | some d=>
   rw[hd]at h
   refine ⟨d,rfl,?_⟩
   cases d<;>first|rfl|(exact h)|cases h
theorem info_Core:(Tryz.prog.info? 29).map (·.size)=some 4:=by kernel_rfl
theorem results_core {fn:Func}{p u v:Tmp}(h:fn.results=#[.cell p 29,.tmp u,.tmp v]) (tmps:Array Value) (w:World) (g:Nat) (c0 c1 c2 c3:Value)
 (hp:tmps.getD p undef=.pointer (some ⟨g,0,none⟩)) (hg:Row w g 29 #[c0,c1,c2,c3]) :
 (results fn tmps).run Tryz.prog w=.ok (.tuple #[.agg #[c0,c1,c2,c3],tmps.getD u undef,tmps.getD v undef]) w:=by
 obtain ⟨d,hu,hd⟩:=und_Core
 have hp':tmps[p]?.getD undef=.pointer (some ⟨g,0,none⟩):=by simpa using hp
 simp[results,h,hp',asAddr,run_loadVar_row w g 29 29 #[c0,c1,c2,c3] (0,0) d hg hu (by cases d<;>first|rfl|exact hd) info_Core]
set_option maxRecDepth 100000 in
set_option maxHeartbeats 8000000 in
theorem core_Get (w:World) (t:Txt) (ht:Tab w) (hE:TabE w) (hs:t.length≤4294967280):Calls Tryz.prog 8 #[.string ⟨t.toArray⟩] w (CoreGot t w):=by
 unfold CoreGot
 obtain ⟨hok,hlen⟩:=wordsGet_ok t
 have hM:Hid (coreGet t=if (wordsGet t).2.2≠0 then (noCore,(wordsGet t).2.1,(wordsGet t).2.2)else coreRun (wordsGet t).1 CSt.zero):=rfl
 obtain ⟨w0,hw0⟩:∃ X,X=w.alloc (.cells #[.string ⟨#[]⟩,.string ⟨#[]⟩,.slice none 0 0,.slice none 0 0] 29):=⟨_,rfl⟩
 have hb0:Below w.heap.size w w0:=by rw[hw0];exact (Below.refl _ _).alloc (Nat.le_refl _) _
 have hrow0:Row w0 w.heap.size 29 #[.string ⟨#[]⟩,.string ⟨#[]⟩,.slice none 0 0,.slice none 0 0]:=by rw[hw0];exact Row.new _ _ _
 have CW0:=words_Get w0 t (ht.keep hb0) hs
 unfold WordsGot at CW0
 rcases hR:wordsGet t with ⟨ls,no,er⟩
 rw[hR]at CW0 hM hok hlen
 dsimp only at CW0 hM hok hlen
 have CW:=Lib.hid CW0
 have HE:=Lib.hid hE
 have HOK:=Lib.hid hok
 have HLEN:=Lib.hid hlen
 have HROW:=Lib.hid hrow0
 have HB0:=Lib.hid hb0
 have hw0':=hw0.symm
 clear CW0 hR hE hok hlen ht hs hrow0 hb0 hw0
 go_enter Tryz.func8,Tryz.ntmps8
 go_wp2_with fail
 try rw[hw0']
 refine CW.out.mono ?_
 rintro e w1 ⟨v,rfl,hls,hb1⟩
 have hrow1:=HROW.out.keep hb1
 have HROW1:=Lib.hid hrow1
 have HLS:=Lib.hid hls
 have hz0:w1.cell? ⟨w.heap.size,0,none⟩=some (.string ⟨#[]⟩):=hrow1.cell 0
 have hz1:w1.cell? ⟨w.heap.size,1,none⟩=some (.string ⟨#[]⟩):=hrow1.cell 1
 have hz2:w1.cell? ⟨w.heap.size,2,none⟩=some (.slice none 0 0):=hrow1.cell 2
 have hz3:w1.cell? ⟨w.heap.size,3,none⟩=some (.slice none 0 0):=hrow1.cell 3
 have hzf0:=hrow1.free 0
 have hzf1:=hrow1.free 1
 have hzf2:=hrow1.free 2
 have hzf3:=hrow1.free 3
 have B1:Hid (Below w.heap.size w w1):=Lib.hid (below_seq HB0.out hb1)
 clear hrow1 hls hb1 CW hw0'
 by_cases h0:er=0
 ·subst h0
  obtain ⟨A,cp,rfl,hlc,_⟩:=id HLS.out
  have hmm:=@run_makeMap Tryz.prog
  go_wp2_with fail
  clear hmm hz0 hz1 hz2 hz3 hzf0 hzf1 hzf2 hzf3
  obtain ⟨w5,hw5⟩:∃ X,X=(((w1.alloc (.map #[] 0)).alloc (.map #[] 0)).alloc (.map #[] 0)).alloc (.cells #[.string ⟨#[]⟩,.string ⟨#[]⟩,.slice none 0 0,.slice none 0 0,.int .i64 0,.map (some w1.heap.size),.map (some (w1.heap.size+1)),.map (some (w1.heap.size+1+1)),.bool false,.slice none 0 0,.int .i64 0] 91):=⟨_,rfl⟩
  obtain ⟨r,hr⟩:∃ r,r=w1.heap.size+1+1+1:=⟨_,rfl⟩
  have hb5:Below w1.heap.size w1 w5:=by
   rw[hw5]
   exact ((((Below.refl _ _).alloc (Nat.le_refl _) _).alloc (by simp) _).alloc (by simp;omega) _).alloc (by simp;omega) _
  have hrd:CR w1.heap.size w5 r CSt.zero:=by
   have m1:=StrMap.made w1
   have m2:=StrMap.made (w1.alloc (.map #[] 0))
   have m3:=StrMap.made ((w1.alloc (.map #[] 0)).alloc (.map #[] 0))
   have al:∀ (W:World) (o:Obj),Below W.heap.size W (W.alloc o):=fun W o=>(Below.refl _ _).alloc (Nat.le_refl _) _
   have h1:=((m1.keep (al _ (.map #[] 0))).keep (al _ (.map #[] 0))).keep (al _ (.cells #[.string ⟨#[]⟩,.string ⟨#[]⟩,.slice none 0 0,.slice none 0 0,.int .i64 0,.map (some w1.heap.size),.map (some (w1.heap.size+1)),.map (some (w1.heap.size+1+1)),.bool false,.slice none 0 0,.int .i64 0] 91))
   have h2:=(m2.keep (al _ (.map #[] 0))).keep (al _ (.cells #[.string ⟨#[]⟩,.string ⟨#[]⟩,.slice none 0 0,.slice none 0 0,.int .i64 0,.map (some w1.heap.size),.map (some (w1.heap.size+1)),.map (some (w1.heap.size+1+1)),.bool false,.slice none 0 0,.int .i64 0] 91))
   have h3:=m3.keep (al _ (.cells #[.string ⟨#[]⟩,.string ⟨#[]⟩,.slice none 0 0,.slice none 0 0,.int .i64 0,.map (some w1.heap.size),.map (some (w1.heap.size+1)),.map (some (w1.heap.size+1+1)),.bool false,.slice none 0 0,.int .i64 0] 91))
   have h4:=Row.new (((w1.alloc (.map #[] 0)).alloc (.map #[] 0)).alloc (.map #[] 0)) 91 #[.string ⟨#[]⟩,.string ⟨#[]⟩,.slice none 0 0,.slice none 0 0,.int .i64 0,.map (some w1.heap.size),.map (some (w1.heap.size+1)),.map (some (w1.heap.size+1+1)),.bool false,.slice none 0 0,.int .i64 0]
   rw[← hw5]at h1 h2 h3 h4
   simp only[World.size_alloc]at h1 h2 h3 h4
   rw[← hr]at h4
   exact ⟨_,_,_,_,_,_,_,RD.made (Nat.le_refl _) (by omega) h1 h2 h3 h4⟩
  rw[← hw5,← hr]
  have hrB:w1.heap.size≤r:=by omega
  have HRD:=Lib.hid hrd
  have hbl:w.heap.size<w1.heap.size:=HROW1.out.lt
  clear hw5 hr hrd
  go_loopg [29] ls.length (fun g u wr=>∃ (k:Nat) (st:CSt),u=.int .i64 k∧k+g=ls.length∧Hid (CR w1.heap.size wr r st)∧Hid (LI st (2*k) k k)∧Hid (coreRun ls CSt.zero=coreRun (ls.drop k) st)∧Below w1.heap.size w1 wr)
  case atStart=>exact ⟨0,CSt.zero,rfl,by omega,HRD,Lib.hid LI.zero,Lib.hid rfl,hb5⟩
  case round=>
   obtain ⟨k,st,rfl,hk,HC,HI,HR,hbr⟩:=hrel
   clear hb5 HRD
   by_cases hlt:k<ls.length
   ·obtain ⟨x,hx⟩:∃ x,ls[k]?=some x:=⟨ls[k],by simp[hlt]⟩
    have hLSr:=HLS.out.keep LineR.firm hbr
    obtain ⟨A',cp',eA,_,hcell⟩:=hLSr
    injection eA with e1 _ e3
    subst e1;subst e3
    obtain ⟨g,o,rfl,v,hc0,hc1,hc2,hv⟩:=hcell k x hx
    obtain ⟨hne,hoks⟩:=HOK.out x (List.mem_of_getElem? hx)
    have hv1:StrsLow w1.heap.size wr v x.words:=by
     obtain ⟨A2,c2,eA2,_,hcell1⟩:=HLS.out
     injection eA2 with e1 _ _
     obtain ⟨g',o',e',v',d0,d1,d2,hv'⟩:=hcell1 k x hx
     rw[← e1]at e'
     injection e' with e'
     injection e' with e4 e5
     subst e4;subst e5
     have h1:=cell_keep d2 hbr
     rw[hc2]at h1
     injection h1 with h1
     subst h1
     exact (lines_low hv' hoks (Nat.le_refl _)).keep hbr
    have HV:=Lib.hid hv1
    obtain ⟨vA,vc,rfl,hvl,_⟩:=id hv1
    obtain ⟨no_,hd,ws⟩:=x
    dsimp only at hc0 hc1 hc2 hvl hne
    obtain ⟨wl,hwl⟩:∃ X,X=wr.alloc (.cells #[.int .i64 (no_:Nat),.bool hd,.slice vA ws.length vc] 80):=⟨_,rfl⟩
    have HX:=Lib.hid hx
    have HNE:=Lib.hid hne
    clear hx hne hoks hv hv1 hcell
    have hrow:Row wl wr.heap.size 80 #[.int .i64 (no_:Nat),.bool hd,.slice vA ws.length vc]:=by rw[hwl];exact Row.new _ _ _
    have hbl1:Below wr.heap.size wr wl:=by rw[hwl];exact (Below.refl _ _).alloc (Nat.le_refl _) _
    have hblw:Below w1.heap.size wr wl:=hbl1.mono hbr.size
    have hkn:k≤2500:=by have:=HLEN.out;omega
    have CL:=Lib.hid (core_line (HC.out.keep hbl1) (Nat.le_trans hbr.size hblw.size) (fun W hW=>HE.out.keep (below_seq B1.out ((hbr.trans hblw).trans hW))) HI.out (by omega) (by omega) (by omega) ⟨no_,hd,ws⟩ (.slice vA ws.length vc) (HV.out.keep hblw) HNE.out)
    unfold Turns at CL
    obtain ⟨st1,hst1⟩:∃ X,X=st.line ⟨no_,hd,ws⟩:=⟨_,rfl⟩
    rw[← hst1]at CL
    have HS1:=Lib.hid hst1
    have HI1:Hid (LI st1 (2*(k+1)) (k+1) (k+1)):=by rw[hst1,show 2*(k+1)=2*k+2 by omega];exact HI.out.line _
    have HR1:Hid (coreRun ls CSt.zero=if st1.e≠0 then (noCore,no_,st1.e)else if st1.at_=7 then (st1.c,0,0)else coreRun (ls.drop (k+1)) st1):=by
     show _=_
     rw[HR.out,List.drop_eq_getElem_cons hlt,show ls[k]=⟨no_,hd,ws⟩from (List.getElem?_eq_some_iff.1 HX.out).2,coreRun,← hst1]
    have hk0:=hrow.cell 0
    have hk1:=hrow.cell 1
    have hk2:=hrow.cell 2
    have HROWL:=Lib.hid hrow
    have hbs:w1.heap.size≤wr.heap.size:=hbr.size
    have hbx:Hid (Below w1.heap.size w1 wl):=Lib.hid (hbr.trans hblw)
    clear hst1 hbl1 HV HI HR HNE hrow
    go_upto_region 8 with fail
    rw[← hwl]
    clear hwl
    have hrl:=HC.out.lt
    clear HC
    obtain ⟨bl,hblq⟩:∃ b,b=wr.heap.size:=⟨_,rfl⟩
    rw[← hblq]at hk0 hk1 hk2 HROWL hrl hbs ⊢
    clear hblq hc0 hc1 hc2 hblw hbr
    go_wp2_with fail
    refine CL.out.mono ?_
    rintro e w9 ⟨rfl,hc9,hb9,hs9,hf9⟩
    have hrow9:Row w9 bl 80 #[.int .i64 (no_:Nat),.bool hd,.slice vA ws.length vc]:=hf9 _ _ _ _ HROWL.out (by decide) (by decide) (by decide) (by decide)
    have hn9:=hrow9.cell 0
    have he9:=hc9.eC
    have ha9:=hc9.atC
    have b9:Hid (Below w1.heap.size w1 w9):=Lib.hid (hbx.out.trans hb9)
    have hz:=HROW1.out.keep b9.out
    have hz0:w9.cell? ⟨w.heap.size,0,none⟩=some (.string ⟨#[]⟩):=hz.cell 0
    have hz1:w9.cell? ⟨w.heap.size,1,none⟩=some (.string ⟨#[]⟩):=hz.cell 1
    have hz2:w9.cell? ⟨w.heap.size,2,none⟩=some (.slice none 0 0):=hz.cell 2
    have hz3:w9.cell? ⟨w.heap.size,3,none⟩=some (.slice none 0 0):=hz.cell 3
    have hzf0:=hz.free 0
    have hzf1:=hz.free 1
    have hzf2:=hz.free 2
    have hzf3:=hz.free 3
    have HC9:=Lib.hid hc9
    have HZ:=Lib.hid hz
    clear hc9 hb9 hs9 hf9 CL hk0 hk1 hk2 hrow9 hz hbx HROWL
    by_cases h0:st1.e=0
    ·have h01:(st1.e != 0)=false:=by simp[h0]
     by_cases h7:st1.at_=7
     ·have h71:(st1.at_ == 7)=true:=by simp[h7]
      obtain ⟨rv,cv,lv,mr,mc,ms,rvs,hrd⟩:=HC9.out
      obtain ⟨rA,rc,rfl,_,_⟩:=id hrd.rows.rows.sl
      obtain ⟨cA,cc,rfl,_,_⟩:=id hrd.cols.sl
      obtain ⟨hq0,hq1,hq2,hq3,_⟩:=hrd.cells
      obtain ⟨rv,hrv⟩:∃ X,X=Value.slice rA rvs.length rc:=⟨_,rfl⟩
      obtain ⟨cv,hcv⟩:∃ X,X=Value.slice cA st1.c.cols.length cc:=⟨_,rfl⟩
      rw[← hrv,← hcv]at hrd
      have HF:=Lib.hid ((((HZ.out.set 0 (.string ⟨st1.c.name.toArray⟩)).set 1 (.string ⟨st1.c.obj.toArray⟩)).set 2 rv).set 3 cv)
      have B9:=below_seq B1.out b9.out
      have HBF:=Lib.hid ((((B9.setCell (p:=⟨w.heap.size,0,none⟩) (Nat.le_refl _) (.string ⟨st1.c.name.toArray⟩)).setCell (p:=⟨w.heap.size,1,none⟩) (Nat.le_refl _) (.string ⟨st1.c.obj.toArray⟩)).setCell (p:=⟨w.heap.size,2,none⟩) (Nat.le_refl _) rv).setCell (p:=⟨w.heap.size,3,none⟩) (Nat.le_refl _) cv)
      have HCI:=Lib.hid (core_kept hrd HZ.out (w':=(((w9.setCell ⟨w.heap.size,0,none⟩ (.string ⟨st1.c.name.toArray⟩)).setCell ⟨w.heap.size,1,none⟩ (.string ⟨st1.c.obj.toArray⟩)).setCell ⟨w.heap.size,2,none⟩ rv).setCell ⟨w.heap.size,3,none⟩ cv) fun g hg=>((set_other _ _ _ _ g hg).trans ((set_other _ _ _ _ g hg).trans ((set_other _ _ _ _ g hg).trans (set_other _ _ _ _ g hg)))))
      have HR2:Hid (coreRun ls CSt.zero=(st1.c,0,0)):=by show _=_;rw[HR1.out,if_neg (by simp[h0]),if_pos h7]
      rw[hrv]at HF HBF HCI
      rw[hcv]at HF HBF HCI
      clear hrd B9 HR1 h7 h0 hrv hcv
      go_wp2_with fail
      refine bodyPost_ret (results_core rfl _ _ _ _ _ _ _ rfl HF.out) rfl ?_
      rw[hM.out,if_neg (by simp),HR2.out]
      exact ⟨_,rfl,HCI.out,HBF.out⟩
     ·have h71:(st1.at_ == 7)=false:=by simp[h7]
      have HR2:Hid (coreRun ls CSt.zero=coreRun (ls.drop (k+1)) st1):=by show _=_;rw[HR1.out,if_neg (by simp[h0]),if_neg h7]
      have HK:=Lib.hid hk
      clear hk
      go_wp2_with fail
      go_roundg (gk - 1)
      case measure=>have:=HK.out;omega
      case rel=>exact ⟨k+1,st1,by go_num,by have:=HK.out;omega,HC9,HI1,HR2,b9.out⟩
    ·have h01:(st1.e != 0)=true:=by simp[h0]
     have HR2:Hid (coreRun ls CSt.zero=(noCore,no_,st1.e)):=by show _=_;rw[HR1.out,if_pos h0]
     have hbw:bl≠w.heap.size:=by omega
     have hrw:r≠w.heap.size:=by omega
     have hS4:∀ a:Addr,a.block≠w.heap.size→((((w9.setCell ⟨w.heap.size,0,none⟩ (.string ⟨#[]⟩)).setCell ⟨w.heap.size,1,none⟩ (.string ⟨#[]⟩)).setCell ⟨w.heap.size,2,none⟩ (.slice none 0 0)).setCell ⟨w.heap.size,3,none⟩ (.slice none 0 0)).cell? a=w9.cell? a:=fun a ha=>by
      rw[World.cell?_setCell_far _ _ _ _ (Ne.symm ha),World.cell?_setCell_far _ _ _ _ (Ne.symm ha),World.cell?_setCell_far _ _ _ _ (Ne.symm ha),World.cell?_setCell_far _ _ _ _ (Ne.symm ha)]
     have HF:=Lib.hid ((((HZ.out.set 0 (.string ⟨#[]⟩)).set 1 (.string ⟨#[]⟩)).set 2 (.slice none 0 0)).set 3 (.slice none 0 0))
     have B9:=below_seq B1.out b9.out
     have HBF:=Lib.hid ((((B9.setCell (p:=⟨w.heap.size,0,none⟩) (Nat.le_refl _) (.string ⟨#[]⟩)).setCell (p:=⟨w.heap.size,1,none⟩) (Nat.le_refl _) (.string ⟨#[]⟩)).setCell (p:=⟨w.heap.size,2,none⟩) (Nat.le_refl _) (.slice none 0 0)).setCell (p:=⟨w.heap.size,3,none⟩) (Nat.le_refl _) (.slice none 0 0))
     clear ha9 B9 HR1
     go_upto_region 10 with fail
     go_region_held3 (fun W=>W.cell? ⟨bl,0,none⟩=some (.int .i64 (no_:Nat))∧W.cell? ⟨r,10,none⟩=some (.int .i64 st1.e)) (first|go_keep|(exact ⟨hn9,he9⟩)|(exact ⟨(hS4 ⟨bl,0,none⟩ hbw).trans hn9,(hS4 ⟨r,10,none⟩ hrw).trans he9⟩)) (fail)
     go_wp2_with fail
     refine bodyPost_ret (results_core rfl _ _ _ _ _ _ _ rfl HF.out) rfl ?_
     rw[hM.out,if_neg (by simp),HR2.out]
     exact ⟨_,rfl,⟨_,_,rfl,⟨none,0,rfl,Nat.le_refl _,fun i x hx=>by simp[noCore]at hx⟩,⟨none,0,rfl,Nat.le_refl _,fun i x hx=>by simp[noCore]at hx⟩⟩,HBF.out.trans (Below.refl _ _).drew⟩
   ·obtain rfl:k=ls.length:=by omega
    have hz:=HROW1.out.keep hbr
    have hz0:wr.cell? ⟨w.heap.size,0,none⟩=some (.string ⟨#[]⟩):=hz.cell 0
    have hz1:wr.cell? ⟨w.heap.size,1,none⟩=some (.string ⟨#[]⟩):=hz.cell 1
    have hz2:wr.cell? ⟨w.heap.size,2,none⟩=some (.slice none 0 0):=hz.cell 2
    have hz3:wr.cell? ⟨w.heap.size,3,none⟩=some (.slice none 0 0):=hz.cell 3
    have hzf0:=hz.free 0
    have hzf1:=hz.free 1
    have hzf2:=hz.free 2
    have hzf3:=hz.free 3
    have HF:=Lib.hid ((((hz.set 0 (.string ⟨#[]⟩)).set 1 (.string ⟨#[]⟩)).set 2 (.slice none 0 0)).set 3 (.slice none 0 0))
    have B9:=below_seq B1.out hbr
    have HBF:=Lib.hid ((((B9.setCell (p:=⟨w.heap.size,0,none⟩) (Nat.le_refl _) (.string ⟨#[]⟩)).setCell (p:=⟨w.heap.size,1,none⟩) (Nat.le_refl _) (.string ⟨#[]⟩)).setCell (p:=⟨w.heap.size,2,none⟩) (Nat.le_refl _) (.slice none 0 0)).setCell (p:=⟨w.heap.size,3,none⟩) (Nat.le_refl _) (.slice none 0 0))
    have HR2:Hid (coreRun ls CSt.zero=(noCore,0,5)):=by show _=_;rw[HR.out,List.drop_length];rfl
    clear hk hz HC HI HR B9
    go_wp2_with fail
    refine bodyPost_ret (results_core rfl _ _ _ _ _ _ _ rfl HF.out) rfl ?_
    rw[hM.out,if_neg (by simp),HR2.out]
    exact ⟨_,rfl,⟨_,_,rfl,⟨none,0,rfl,Nat.le_refl _,fun i x hx=>by simp[noCore]at hx⟩,⟨none,0,rfl,Nat.le_refl _,fun i x hx=>by simp[noCore]at hx⟩⟩,HBF.out⟩
 ·have h1:(er != 0)=true:=by simp[h0]
  have HF:=Lib.hid ((((HROW1.out.set 0 (.string ⟨#[]⟩)).set 1 (.string ⟨#[]⟩)).set 2 (.slice none 0 0)).set 3 (.slice none 0 0))
  have HBF:=Lib.hid ((((B1.out.setCell (p:=⟨w.heap.size,0,none⟩) (Nat.le_refl _) (.string ⟨#[]⟩)).setCell (p:=⟨w.heap.size,1,none⟩) (Nat.le_refl _) (.string ⟨#[]⟩)).setCell (p:=⟨w.heap.size,2,none⟩) (Nat.le_refl _) (.slice none 0 0)).setCell (p:=⟨w.heap.size,3,none⟩) (Nat.le_refl _) (.slice none 0 0))
  go_wp2_with fail
  refine bodyPost_ret (results_core rfl _ _ _ _ _ _ _ rfl HF.out) rfl ?_
  rw[hM.out,if_pos h0]
  exact ⟨_,rfl,⟨_,_,rfl,⟨none,0,rfl,Nat.le_refl _,fun i x hx=>by simp[noCore]at hx⟩,⟨none,0,rfl,Nat.le_refl _,fun i x hx=>by simp[noCore]at hx⟩⟩,HBF.out⟩
end Go.Proofs.YtjipjfoambbofaaGreatDoor
end
section
namespace Vic
open Go Go.RowKit
def RefParted (q r:Nat) (w:World) (e:Ending) (w':World):Prop:=∃ x y,e=.returned (.tuple #[x,y])∧RefN w' x q∧RefN w' y r∧Below w.heap.size w w'
theorem cmpI_le {a b:Nat}(h:a≤b):∃ c,cmpI a b=c∧c≤0:=by
 refine ⟨_,rfl,?_⟩
 unfold cmpI
 split
 ·omega
 ·rw[if_neg (by omega)];omega
theorem Half.low {b r low high mid:Nat}(h:Half b r low high) (h1:low<mid) (h2:mid<high) (h3:b*mid≤r):Half b r mid high:=⟨by rw[Nat.mul_comm];exact h3,h.2.1,by have:=h.2.2.1;omega,h.2.2.2⟩
theorem Half.high {b r low high mid:Nat}(h:Half b r low high) (h1:low<mid) (h2:mid<high) (h3:r<b*mid):Half b r low mid:=⟨h.1,by rw[Nat.mul_comm];exact h3,h.2.2.1,by have:=h.2.2.2;omega⟩
end Vic
namespace Go.Proofs.YtjipjfoambbofaaGreatDoor
open Go.RowKit Vic
set_option maxRecDepth 100000 in
set_option maxHeartbeats 8000000 in
theorem ref_Div (w:World) (u v:Value) (a b:Nat) (ha:RefN w u a) (hb:RefN w v b) (hal:(tdg a).length≤100000) (hbl:(tdg b).length≤100000) (h0:b≠0) :
 Calls Tryz.prog 82 #[u,v] w (RefParted (a / b) (a % b) w):=by
 obtain ⟨A,c,rfl,hA⟩:=ha.open_
 obtain ⟨A',c',rfl,hB⟩:=hb.open_
 clear ha
 obtain ⟨i1,hi1,hz1,hsz1,hby1⟩:=info_int
 have VA:Hid (val 10000 (tdg a)=a):=val_digs (by omega) a
 have da:dig 10000 (tdg a):=digs_dig (by omega) a
 obtain ⟨v,hv⟩:∃ v,v=Value.slice A' (tdg b).length c':=⟨_,rfl⟩
 rw[← hv]at hb ⊢
 have HB:=Lib.hid hb
 clear hv hB hb
 generalize tdg a=la at *
 have hmk:∀ w,(Instr.makeSlice 37 (.int .i64 la.length) (.int .i64 la.length)).run Tryz.prog w=.ok (.slice (some ⟨w.heap.size,0,none⟩) la.length la.length) (w.alloc (.cells (vals .i64 (List.replicate la.length 0)) 3)):=fun w=>mk_int _ _ rfl (by omega) w
 have DA:=Lib.hid da;have H0:=Lib.hid h0;have HBL:=Lib.hid hbl
 clear da h0 hbl
 go_enter Tryz.func82,Tryz.ntmps82
 go_wp2_with fail
 clear hmk
 go_loopw [8,7] (fun t s wr=>∃ (j:Nat) (q:List Nat) (r:Nat),t=.int .i64 ((j:Int) - 1)∧j≤la.length∧Below w.heap.size w wr∧Hid (Row wr w.heap.size 3 (vals .i64 q))∧Hid (RDiv 10000 b la q j r)∧Hid (RefN wr s r∧Above (w.heap.size+1) s)∧w.heap.size+1≤wr.heap.size) (fun t _ _=>(intOf t+1).toNat)
 case atStart=>exact ⟨la.length,_,0,rfl,by omega,(Below.refl _ _).alloc (Nat.le_refl _) _,Row.new _ _ _,RDiv.start (by omega) (by have:=H0.out;omega) la,⟨by show Ints _ _ _ (tdg 0);rw[show tdg 0 = []from digs_zero _];exact Ints.nil_ _ _,above_nil⟩,by simp⟩
 case round=>
  obtain ⟨j,q,r,rfl,hj,hbr,hrow,hdv,hr,hsz⟩:=hrel
  rcases Nat.eq_zero_or_pos j with hj0|hj0
  ·subst hj0
   obtain ⟨hq1,hq2⟩:=hdv.out.done
   rw[VA.out]at hq1 hq2
   have hlen:=hdv.out.len
   have hu:Ints .i64 wr (.slice (some ⟨w.heap.size,0,none⟩) q.length la.length) q:=hrow.out.ints (l:=q) la.length (by omega)
   have CT0:=ref_trim wr _ _ q hu hdv.out.dg (by omega)
   rw[hq1,hlen]at CT0
   have CT:=Lib.hid CT0
   have hr':=Lib.hid hr.out.1
   rw[hq2]at hr'
   clear CT0 hu hlen hr hdv
   go_wp2_with fail
   refine CT.out.mono ?_
   rintro e w' ⟨z,rfl,hz,hbz⟩
   go_wp2
   go_ret2
   exact ⟨z,_,rfl,hz,hr'.out.keep hbz,below_seq hbr hbz⟩
  ·obtain ⟨k,rfl⟩:∃ k,j=k+1:=⟨j - 1,by omega⟩
   obtain ⟨b1,o1,rfl,hc1⟩:=(Ints.keep hA hbr).at_ k (by omega)
   obtain ⟨hlt,hst⟩:=hdv.out.step (by omega) DA.out (by omega)
   have hdk:=dig_getD DA.out (by omega) k
   have hrb:=hdv.out.lt
   have hqlen:=hdv.out.len
   have HZ:Hid (q.getD k 0=0):=hdv.out.low k (by omega)
   generalize la.getD k 0=d at *
   have HDK:=Lib.hid hdk
   obtain ⟨r1,hr1⟩:∃ r1,r1=d+10000*r:=⟨_,rfl⟩
   rw[← hr1]at hlt hst
   have hr1b:r1<10000*b:=by omega
   have HST:=Lib.hid hst;have HLT:=Lib.hid hlt;have HR1:=Lib.hid hr1;have HR1B:=Lib.hid hr1b
   have hl1:(tdg r).length≤100000:=Nat.le_trans (tdg_le (Nat.le_of_lt hrb)) HBL.out
   have hl2:(tdg r1).length≤100001:=Nat.le_trans (tdg_len (Nat.lt_of_lt_of_le hr1b (by
    have:=lt_pow_digs_length (B:=10000) (by omega) b
    have e:10000 ^ ((tdg b).length+1)=10000*10000 ^ (tdg b).length:=by rw[Nat.pow_succ,Nat.mul_comm]
    rw[e]
    exact Nat.mul_le_mul_left _ (Nat.le_of_lt this)))) (by have:=HBL.out;omega)
   have h01:Below wr.heap.size wr (wr.alloc (.cells #[.int .i64 (d:Int)] 3)):=(Below.refl _ _).alloc (Nat.le_refl _) _
   have hra:=Lib.hid (hr.out.1.keep h01)
   clear hlt hst hdk hr1 hr1b hrb hdv
   go_wp2_with (at_builtin;refine wpList_append_ahead rfl (.tmp 26) (.tmp 27) 37 rfl wr.heap.size 3 i1 Tryz.underlying37 hi1 hz1 hsz1 hby1 wr.heap.size d rfl (Row.new _ _ _) (Nat.le_refl _) (by simp) _ (tdg r) rfl hra.out (by omega) ?_;intro v5 w5 hv5 hb5 hab5;refine Hid.out ?_)
   have hB5:Below wr.heap.size wr w5:=h01.trans hb5
   have hd5:dig 10000 (d :: tdg r):=dig_cons.2 ⟨HDK.out,digs_dig (by omega) r⟩
   have hv5v:val 10000 (d :: tdg r)=r1:=by rw[val_cons,val_digs (by omega),HR1.out]
   obtain ⟨A5,c5,rfl,_,_⟩:=id hv5
   have CT0:=ref_trimA w5 A5 c5 _ hv5 hd5 (by simp;omega)
   rw[hv5v]at CT0
   have CT:=Lib.hid CT0
   clear CT0 hv5 hd5 hv5v hra hr hb5
   have hlz:(d :: tdg r).length=(tdg r).length+1:=by simp
   refine Lib.hid ?_
   go_wp2_with fail
   refine CT.out.mono ?_
   rintro e w6 ⟨k6,rfl,hx6,hb6⟩
   have hab6:Above (w.heap.size+1) (.slice A5 k6 c5):=fun A l c h1 b o h2=>by
    injection h1 with h3 h4 h5
    exact Nat.le_trans hsz (hab5 A5 _ c5 rfl b o (h3.trans h2))
   obtain ⟨x6,hx6e⟩:∃ x6,x6=Value.slice A5 k6 c5:=⟨_,rfl⟩
   rw[← hx6e]at hx6 hab6 ⊢
   clear hx6e hab5
   have hB6:=below_seq hB5 hb6
   have HX6:=Lib.hid hx6
   have CC0:=ref_Cmp w6 x6 v r1 b hx6 (HB.out.keep (below_seq hbr hB6)) (by omega) (by have:=HBL.out;omega)
   have hbr6:Below w.heap.size w w6:=below_seq hbr hB6
   have hrow6:Hid (Row w6 w.heap.size 3 (vals .i64 q)):=Lib.hid (hrow.out.keep hB6)
   have hsz6:w.heap.size+1≤w6.heap.size:=Nat.le_trans hsz hB6.size
   have hrow7:=hrow6.out.free k
   clear CT hlz hx6 hrow hB5 hb6 hB6 hbr
   by_cases hlt:r1<b
   ·rw[cmpI_lt hlt]at CC0
    have CC:=Lib.hid CC0
    have hq0:r1 / b=0:=Nat.div_eq_of_lt hlt
    have hm0:r1 % b=r1:=Nat.mod_eq_of_lt hlt
    have hst:=HST.out
    rw[hq0,hm0]at hst
    have hz:q.getD k 0=0:=HZ.out
    rw[show q.set k 0=q by rw[← hz];exact set_self q k (by omega)]at hst
    have HST2:=Lib.hid hst
    clear hst hz CC0 hq0 hm0 HST HLT
    go_wp2_with fail
    refine CC.out.mono ?_
    rintro e w' ⟨rfl,rfl⟩
    go_wp2_with fail
    go_roundw
    case rel=>exact ⟨k,q,r1,by go_num,by omega,hbr6,hrow6,HST2,⟨HX6.out,hab6⟩,hsz6⟩
    case measure=>simp[intOf]
   ·have hcg:0≤cmpI r1 b:=by unfold cmpI;rw[if_neg hlt];split<;>omega
    generalize cmpI r1 b=cg at *
    have CC:=Lib.hid CC0
    clear CC0
    go_wp2_with fail
    refine CC.out.mono ?_
    rintro e w' ⟨rfl,rfl⟩
    go_wp2_with fail
    clear CC hcg
    go_loopw [9,10] (fun s t wi=>∃ (low high:Nat),s=.int .i64 low∧t=.int .i64 high∧low<high∧high≤10000∧1≤low∧Hid (Half b r1 low high)∧Below w6.heap.size w6 wi) (fun s t _=>(intOf t).toNat - (intOf s).toNat)
    case atStart=>exact ⟨1,10000,rfl,rfl,by omega,by omega,by omega,⟨by omega,HR1B.out,by omega,by omega⟩,Below.refl _ _⟩
    case round=>
     obtain ⟨low,high,rfl,rfl,hlh,hh4,hl1',hha,hbi⟩:=hrel
     by_cases hgo:low+1<high
     ·obtain ⟨mid,hmid⟩:∃ mid,mid=(low+high) / 2:=⟨_,rfl⟩
      have hm1:low<mid:=by omega
      have hm2:mid<high:=by omega
      have em:((low:Int)+(high:Int)) / 2=(mid:Int):=by omega
      have hgo':(1:Int)<(high:Int) - (low:Int):=by omega
      obtain ⟨w8,hw8⟩:∃ w8,w8=wr.alloc (.cells #[.int .i64 (mid:Int)] 3):=⟨_,rfl⟩
      have h68:Below w6.heap.size w6 w8:=by rw[hw8];exact hbi.alloc hbi.size _
      have hone:RefN w8 (.slice (some ⟨wr.heap.size,0,none⟩) 1 1) mid:=ref_one (by rw[hw8];exact Row.new _ _ _) (by omega) (by omega)
      have CM:=Lib.hid (ref_Mul w8 v _ b mid (HB.out.keep (below_seq hbr6 h68)) hone (by have:=HBL.out;omega) (by rw[tdg_small (by omega) (by omega)];simp))
      have HW8:=Lib.hid hw8
      clear hmid hw8 hone
      go_wp2_with fail
      rw[← HW8.out]
      refine CM.out.mono ?_
      rintro e w9 ⟨x9,rfl,hx9,hb9⟩
      have h69:=below_seq h68 hb9
      have CP0:=ref_Cmp w9 x9 x6 (b*mid) r1 hx9 (HX6.out.keep h69) (Nat.le_trans (tdg_mul_le b mid (by omega)) (by have:=HBL.out;omega)) (by omega)
      clear HW8 CM hx9
      by_cases hle:b*mid≤r1
      ·obtain ⟨cg,hcg,hcg2⟩:=cmpI_le hle
       rw[hcg]at CP0
       have CP:=Lib.hid CP0
       have HH:=Lib.hid (hha.out.low hm1 hm2 hle)
       clear CP0 hcg hle
       go_wp2_with fail
       refine CP.out.mono ?_
       rintro e w' ⟨rfl,rfl⟩
       go_wp2_with fail
       go_roundw
       case rel=>exact ⟨mid,high,rfl,rfl,hm2,hh4,by omega,HH,h69⟩
       case measure=>simp[intOf];omega
      ·have hcg:cmpI (b*mid) r1=1:=cmpI_gt (by omega)
       rw[hcg]at CP0
       have CP:=Lib.hid CP0
       have HH:=Lib.hid (hha.out.high hm1 hm2 (by omega))
       clear CP0 hcg hle
       go_wp2_with fail
       refine CP.out.mono ?_
       rintro e w' ⟨rfl,rfl⟩
       go_wp2_with fail
       go_roundw
       case rel=>exact ⟨low,mid,rfl,rfl,hm1,by omega,hl1',HH,h69⟩
       case measure=>simp[intOf];omega
     ·have hlow:low=r1 / b:=hha.out.done (by have:=H0.out;omega) (by omega)
      have hst:=HST.out
      rw[← hlow]at hst
      have hgo':¬ (1:Int)<(high:Int) - (low:Int):=by omega
      have hqk:=(hrow6.out.keep hbi).cell k
      rw[vals_get .i64 q k (by omega)]at hqk
      have hqf:=(hrow6.out.keep hbi).free k
      generalize q.getD k 0=q0 at hqk
      obtain ⟨w8,hw8⟩:∃ w8,w8=(wr.setCell ⟨w.heap.size,k,none⟩ (.int .i64 (low:Int))).alloc (.cells #[.int .i64 (low:Int)] 3):=⟨_,rfl⟩
      have hszr:w.heap.size+1≤wr.heap.size:=Nat.le_trans hsz6 hbi.size
      have hrow8:Hid (Row w8 w.heap.size 3 (vals .i64 (q.set k low))):=by
       rw[hw8,← vals_set]
       exact Lib.hid (((hrow6.out.keep hbi).set k _).alloc _)
      have hb8:Below w.heap.size w w8:=by
       rw[hw8]
       exact ((hbr6.trans (hbi.mono hbr6.size)).setCell (p:=⟨w.heap.size,k,none⟩) (Nat.le_refl _) _).alloc (by simp[World.setCell];omega) _
      have hsz8:w.heap.size+1≤w8.heap.size:=by rw[hw8];simp[World.setCell];omega
      have hx8:RefN w8 x6 r1:=Ints.aside (HX6.out.keep hbi) hab6 fun bb h1 h2=>by
       rw[hw8]
       exact (Below.heap_alloc _ _ bb (by simpa [World.setCell]using h2)).trans (Below.heap_setCell wr ⟨w.heap.size,k,none⟩ _ bb (by show bb≠w.heap.size;omega))
      have hlow4:low<10000:=by rw[hlow];exact HLT.out
      have hone:RefN w8 (.slice (some ⟨wr.heap.size,0,none⟩) 1 1) low:=ref_one (by
       rw[hw8]
       have:=Row.new (wr.setCell ⟨w.heap.size,k,none⟩ (.int .i64 (low:Int))) 3 #[.int .i64 (low:Int)]
       rwa [show (wr.setCell ⟨w.heap.size,k,none⟩ (.int .i64 (low:Int))).heap.size=wr.heap.size by simp[World.setCell]]at this) (by omega) hlow4
      have CM:=Lib.hid (ref_Mul w8 v _ b low (HB.out.keep hb8) hone (by have:=HBL.out;omega) (by rw[tdg_small (by omega) hlow4];simp))
      have hble:b*low≤r1:=by rw[hlow];exact Nat.mul_div_le r1 b
      have hr1n:r1≠0:=by
       intro e
       rw[e,Nat.zero_div]at hlow
       omega
      have hmod:r1 - b*low=r1 % b:=by
       rw[hlow]
       have:=Nat.div_add_mod r1 b
       omega
      have CS:Hid (∀ w9 x9,Below w8.heap.size w8 w9→RefN w9 x9 (b*low)→Calls Tryz.prog 153 #[x6,x9] w9 (Gives (fun x w'=>RefN w' x (r1 % b)∧Above w9.heap.size x) w9)):=Lib.hid fun w9 x9 h1 h2=>by
       have:=ref_SubA w9 x6 x9 r1 (b*low) (hx8.keep h1) h2 (by omega) hr1n hble
       rwa [hmod]at this
      have hm0:r1 % b % b=r1 % b:=Nat.mod_mod _ _
      have HSTT:=Lib.hid hst
      have HW8:=Lib.hid hw8
      have hlb:(low:Int)<10000:=by omega
      clear hlow hmod hble hone hx8 hw8 hst HST HLT hrow7 hm0 hr1n
      go_wp2_with fail
      rw[← HW8.out]
      refine CM.out.mono ?_
      rintro e w9 ⟨x9,rfl,hx9,hb9⟩
      have CSS:=Lib.hid (CS.out w9 x9 hb9 hx9)
      clear CS CM HW8 hx9
      go_wp2_with fail
      refine CSS.out.mono ?_
      rintro e w10 ⟨x10,rfl,⟨hx10,hab10⟩,hb10⟩
      have h810:=below_seq hb9 hb10
      have HX10:=Lib.hid hx10
      clear CSS hx10
      go_wp2_with fail
      go_roundw
      case rel=>exact ⟨k,q.set k low,r1 % b,by go_num,by omega,below_seq hb8 h810,Lib.hid (hrow8.out.keep h810),HSTT,⟨HX10.out,hab10.mono (Nat.le_trans hsz8 hb9.size)⟩,Nat.le_trans hsz8 h810.size⟩
      case measure=>simp[intOf]
end Go.Proofs.YtjipjfoambbofaaGreatDoor
end
section
namespace Vic
open Go Go.RowKit
def refOf (w:World):Value→Nat
 | .slice (some q) l _=>val 10000 ((List.range l).map fun i=>match w.cell? ⟨q.block,q.off+i,none⟩with|some (.int _ d)=>d.toNat|_=>0)
 | _=>0
theorem refOf_eq {w:World}{v:Value}{n:Nat}(h:RefN w v n):refOf w v=n:=by
 have hv:val 10000 (tdg n)=n:=val_digs (by omega) n
 obtain ⟨A,c,rfl,hlc,hcell⟩:=h
 rcases A with _|q
 ·rcases Nat.eq_zero_or_pos (tdg n).length with h0|h0
  ·have:tdg n = []:=List.eq_nil_of_length_eq_zero h0
   rw[this]at hv
   exact hv
  ·obtain ⟨_,_,h1,_⟩:=hcell 0 h0
   cases h1
 ·have e:((List.range (tdg n).length).map fun i=>match w.cell? ⟨q.block,q.off+i,none⟩with|some (.int _ d)=>d.toNat|_=>0)=tdg n:=by
   apply List.ext_getElem
   ·simp
   ·intro i h1 h2
    obtain ⟨b',o',hq,hi⟩:=hcell i h2
    injection hq with hq
    subst hq
    simp[hi,h2]
  show val 10000 _=_
  rw[e,hv]
theorem tdg_zero:tdg 0 = []:=digs_zero _
theorem tdg_pos {n:Nat}(h:n≠0):0<(tdg n).length:=by
 rcases Nat.eq_zero_or_pos (tdg n).length with h1|h1
 ·exact absurd ((digs_eq_nil (B:=10000) (by omega)).1 (List.eq_nil_of_length_eq_zero h1)) h
 ·exact h1
end Vic
namespace Go.Proofs.YtjipjfoambbofaaGreatDoor
open Go.RowKit Vic
set_option maxRecDepth 100000 in
set_option maxHeartbeats 4000000 in
theorem ref_Gcd (w:World) (u v:Value) (a b:Nat) (ha:RefN w u a) (hb:RefN w v b) (hal:(tdg a).length≤100000) (hbl:(tdg b).length≤100000) :
 Calls Tryz.prog 81 #[u,v] w (Gives (fun x w'=>RefN w' x (Nat.gcd a b)) w):=by
 have HA:=Lib.hid ha;have HB:=Lib.hid hb
 obtain ⟨G,hG⟩:∃ G,G=Nat.gcd a b:=⟨_,rfl⟩
 rw[← hG]
 have HG:=Lib.hid hG
 clear ha hb hG
 go_enter Tryz.func81,Tryz.ntmps81
 go_wp2_with fail
 go_loopw [0,1] (fun s t wr=>∃ (x y:Nat),Hid (RefN wr s x)∧RefN wr t y∧Hid (G=Nat.gcd x y)∧(tdg x).length≤100000∧(tdg y).length≤100000∧Below w.heap.size w wr) (fun _ t wr=>refOf wr t)
 case atStart=>exact ⟨a,b,HA,HB.out,HG,hal,hbl,Below.refl _ _⟩
 case round=>
  obtain ⟨x,y,hx,hy,hg,hxl,hyl,hbr⟩:=hrel
  have hy0:=hy
  have HY:=Lib.hid hy
  have hmo:=Lib.hid (refOf_eq hy)
  obtain ⟨A1,c1,he,_⟩:=hy.open_
  subst he
  clear hy hy0
  by_cases h0:y=0
  ·have hge:Hid (G=x):=by rw[hg.out,h0,Nat.gcd_zero_right];exact Lib.hid rfl
   subst h0
   rw[tdg_zero]at *
   clear hmo hg
   go_wp2_with fail
   go_ret
   exact ⟨_,rfl,by rw[hge.out];exact hx.out,hbr⟩
  ·have hp:=tdg_pos h0
   have CD:=Lib.hid (ref_Div wr u0 _ x y hx.out HY.out hxl hyl h0)
   have hge:Hid (G=Nat.gcd y (x % y)):=by rw[hg.out,Nat.gcd_comm,Nat.gcd_rec,Nat.gcd_comm];exact Lib.hid rfl
   have hml:Hid ((tdg (x % y)).length≤100000):=Lib.hid (Nat.le_trans (tdg_le (Nat.le_of_lt (Nat.mod_lt _ (by omega)))) hyl)
   have hlt:Hid (x % y<y):=Lib.hid (Nat.mod_lt _ (by omega))
   unfold RefParted at CD
   clear hg
   go_wp2_with fail
   refine CD.out.mono ?_
   rintro e w2 ⟨q2,r2,rfl,hq2,hr2,hb2⟩
   have HR2:=Lib.hid hr2
   clear hr2 hq2
   go_wp2_with fail
   go_roundw
   case rel=>exact ⟨y,x % y,Lib.hid (HY.out.keep hb2),HR2.out,hge,hyl,hml.out,hbr.trans (hb2.mono hbr.size)⟩
   case measure=>rw[refOf_eq HR2.out,hmo.out];exact hlt.out
end Go.Proofs.YtjipjfoambbofaaGreatDoor
end
