/- CoreBounds: each kind of bound, one over the other. No program in sight. -/
import Derived.Test.YtjipjfoambbofaaGreatDoorKbf
set_option linter.unusedVariables false
set_option linter.unusedSimpArgs false
namespace Vic
open Go
def bndH:Txt:=[66,79,85,78,68,83]
def bKinds:List Txt:=[[85,80],[76,79],[70,88],[70,82],[77,73],[80,76],[66,86],[76,73],[85,73]]
def bName (k:Nat):Txt:=bKinds.getD k []
def bWords (k:Nat) (v:Txt):List Txt:=[bName k,[66],[120]] ++ (if k<3∨6<k then [v]else [])
def bLine (k:Nat) (v:Txt):Txt:=32 :: (bName k ++ [32,66,32,120] ++ (if k<3∨6<k then 32 :: v else []))
structure BS where
 low:Txt
 up:Txt
 int:Bool
def bStep (s:BS) (k:Nat) (v:Txt):BS:=
 if k=0∨k=8 then ⟨s.low,v,s.int || decide (6≤k)⟩
 else if k=1∨k=7 then ⟨v,s.up,s.int || decide (6≤k)⟩
 else if k=2 then ⟨v,v,s.int⟩
 else if k=3 then ⟨[],[],s.int⟩
 else if k=4 then ⟨[],s.up,s.int⟩
 else if k=5 then ⟨s.low,[],s.int⟩
 else ⟨[48],[49],true⟩
def bFold (s:BS) (l:List (Nat × Int)):BS:=l.foldl (fun s x=>bStep s x.1 (intT x.2)) s
def bLines (l:List (Nat × Int)):List Txt:=l.map fun x=>bLine x.1 (intT x.2)
theorem bnd_facts0:∀ k,k<9→∀ n,n<100→∀ b:Bool,OkL (bLine k ((if b then [45]else []) ++ dec2 n))∧fieldsB (bLine k ((if b then [45]else []) ++ dec2 n))=bWords k ((if b then [45]else []) ++ dec2 n)∧infM ((if b then [45]else []) ++ dec2 n)=0:=by decide +kernel
theorem bnd_facts {k:Nat}{z:Int}(hk:k<9) (h1 : -100<z) (h2:z<100):OkL (bLine k (intT z))∧fieldsB (bLine k (intT z))=bWords k (intT z)∧infM (intT z)=0:=by
 have:=bnd_facts0 k hk z.natAbs (by omega) (decide (z<0))
 unfold intT
 simpa using this
def colX (s:BS):ColM:=⟨[120],s.low,s.up,[49],s.int⟩
def colY:ColM:=⟨[121],[48],[],[49],true⟩
def colZ:ColM:=⟨[122],[48],[],[48],false⟩
structure BInv (st:CSt) (s:BS):Prop where
 e:st.e=0
 at_:st.at_=6
 map_:atT st.cols [120]=some 0
 cols:st.c.cols = [colX s,colY,colZ]
theorem bnd_step {st:CSt}{s:BS}(h:BInv st s) {k:Nat}{v:Txt}{q:Rat}(hk:k<9) (hi:infM v=0) (hl:litOf v=some q) (hq:fracText q=v) (no:Nat):∃ st',st.line ⟨no,false,bWords k v⟩=st'∧BInv st' (bStep s k v):=by
 obtain ⟨e,at_,mp,cols⟩:=h
 refine ⟨_,rfl,?_⟩
 have hn:nameB [66]=true:=by decide
 have hcases:k=0∨k=1∨k=2∨k=3∨k=4∨k=5∨k=6∨k=7∨k=8:=by omega
 rcases hcases with rfl|rfl|rfl|rfl|rfl|rfl|rfl|rfl|rfl <;>
  refine ⟨?_,?_,?_,?_⟩ <;>
  simp[bWords,bName,bKinds,CSt.line,at_,e,CSt.bounds,longM,aloneM,CSt.many,CSt.fails,CSt.word,hn,mp,CSt.bound,hi,hl,hq,CSt.colSet,setColM,cols,bStep,colX]
theorem bWords_ne (k:Nat) (v:Txt):bWords k v≠[]:=by simp[bWords]
theorem bnd_run:∀ (l:List (Nat × Int)) (no:Nat) {st:CSt}{s:BS},BInv st s→(∀ x∈l,x.1<9∧-100<x.2∧x.2<100)→∃ c,coreRun (linesOf no (bLines l ++ [endH])) st=(c,0,0)∧c.cols = [colX (bFold s l),colY,colZ]
 | [],no,st,s,h,_=>by
   rw[show bLines [] = []from rfl,List.nil_append,linesOf,lineOf_head (.inr (.inr rfl))]
   have e7:=head_end (st:=st) no h.e (.inr h.at_)
   rw[List.singleton_append,show endH = [69,78,68,65,84,65]from rfl,run_ends (by rw[e7];exact h.e) (by rw[e7]),e7]
   exact ⟨_,rfl,h.cols⟩
 | x :: l,no,st,s,h,hx=>by
   obtain ⟨x1,x2,x3⟩:=hx x (by simp)
   obtain ⟨_,hf,hi⟩:=bnd_facts x1 x2 x3
   obtain ⟨st',e',h'⟩:=bnd_step h x1 hi (litOf_int x2 x3) (intT_is x2 x3) no
   rw[show bLines (x :: l)=bLine x.1 (intT x.2) :: bLines l from rfl,List.cons_append,linesOf,show lineOf no (bLine x.1 (intT x.2)) = [⟨no,false,bWords x.1 (intT x.2)⟩]from lineOf_sp hf (bWords_ne _ _) no,coreRun_goes (Goes.one e' h'.e (by rw[h'.at_];decide))]
   exact bnd_run l (no+1) h' fun y hy=>hx y (by simp[hy])
def bnd0:List Txt:=[nameH,rowsH,[32,78,32,99],[32,76,32,114],[32,71,32,115],[32,69,32,101],colsH,[32,120,32,99,32,49,32,114,32,49],inL,[32,121,32,99,32,49,32,115,32,49],outL,[32,122,32,101,32,49],rhsM,[32,82,32,114,32,53,32,101,32,50],bndH]
def bSt (rows:List RowM) (cols:List ColM) (a:Int) (cm:List (Txt × Int)) (seen:List Txt) (i:Bool):CSt:=⟨⟨[65],[99],rows,cols⟩,a,[([101],2),([115],1),([114],0),([99],-1)],cm,seen,i,[],0⟩
theorem bnd0_lines:linesOf 1 bnd0 = [⟨1,true,[[78,65,77,69],[65]]⟩,⟨2,true,[rowsH]⟩,⟨3,false,[[78],[99]]⟩,⟨4,false,[[76],[114]]⟩,⟨5,false,[[71],[115]]⟩,⟨6,false,[[69],[101]]⟩,⟨7,true,[colsH]⟩,⟨8,false,[[120],[99],[49],[114],[49]]⟩,⟨9,false,[[77],markerM,intorgM]⟩,⟨10,false,[[121],[99],[49],[115],[49]]⟩,⟨11,false,[[77],markerM,intendM]⟩,⟨12,false,[[122],[101],[49]]⟩,⟨13,true,[rhsM]⟩,⟨14,false,[[82],[114],[53],[101],[50]]⟩,⟨15,true,[bndH]⟩]:=by rfl
theorem row_kind {st:CSt}(no:Nat) {s kd:Txt}{k:Int}(hk:idxT kindsM kd=k) (hk0:0<k) (he:st.e=0) (hat:st.at_=2) (hn:nameB s=true) (hm:(s == markerM)=false) (hf:atT st.rows s=none) (hl:st.c.rows.length<40) :
 st.line ⟨no,false,[kd,s]⟩={ st with l:=[],rows:=(s,(st.c.rows.length:Nat)) :: st.rows,c:={ st.c with rows:=st.c.rows ++ [(⟨s,k,[],[48],[]⟩:RowM)] } }:=by
 have h40:¬ (40:Int)≤(st.c.rows.length:Nat):=by omega
 have k1:¬ k<0:=by omega
 have k2:¬ k=0:=by omega
 simp[CSt.line,hat,CSt.row,CSt.many,CSt.fails,CSt.word,he,hk,hn,hm,hf,h40,CSt.rowEnd,k1,k2,hk0]
theorem modify_last {α:Type}(f:α→α) (x:α):∀ l:List α,(l ++ [x]).modify l.length f=l ++ [f x]
 | []=>rfl
 | a :: l=>by rw[List.cons_append,List.length_cons,List.modify_succ_cons,modify_last f x l,List.cons_append]
theorem col_two {st:CSt}(no:Nat) {s r1 r2:Txt}{i:Nat}(he:st.e=0) (hat:st.at_=3) (hn:nameB s=true) (hr:(s == rhsM)=false) (hf:atT st.cols s=none) (hl:st.c.cols.length<40) (h1:atT st.rows r1=some (-1)) (h2:atT st.rows r2=some (i:Int)) (h12:(r2 == r1)=false) :
 st.line ⟨no,false,[s,r1,[49],r2,[49]]⟩={ st with l:=[],cols:=(s,(st.c.cols.length:Nat)) :: st.cols,seen:=[r2,r1],c:={ st.c with cols:=st.c.cols ++ [(⟨s,[48],[],[49],st.integer⟩:ColM)],rows:=st.c.rows.modify i fun x=>{ x with coef:=x.coef ++ [((st.c.cols.length:Int),[49])] } } }:=by
 have h40:¬ (40:Int)≤(st.c.cols.length:Nat):=by omega
 have hi0:¬ ((i:Int)<0):=by omega
 have h12':¬ r2=r1:=beq_eq_false_iff_ne.1 h12
 have hmod:(st.c.cols ++ [(⟨s,[48],[],[48],st.integer⟩:ColM)]).modify st.c.cols.length (fun x=>{ x with cost:=[49] })=st.c.cols ++ [(⟨s,[48],[],[49],st.integer⟩:ColM)]:= modify_last _ _ _
 simp[CSt.line,hat,CSt.column,CSt.many,CSt.fails,CSt.word,he,hn,hr,hf,h40,CSt.pairs,CSt.pair,h1,h2,hi0,h12',CSt.number,litOf_one,CSt.put,fracText_one,setRowM,setColM,hmod]
theorem litOf_five:litOf [53]=some 5:=litOf_int (z:=5) (by omega) (by omega)
theorem litOf_two:litOf [50]=some 2:=litOf_int (z:=2) (by omega) (by omega)
theorem side_two {st:CSt}(no:Nat) {r1 r2:Txt}{i j:Nat}(he:st.e=0) (hat:st.at_=4) (hs:st.seen = []) (h1:atT st.rows r1=some (i:Int)) (h2:atT st.rows r2=some (j:Int)) (h12:(r2 == r1)=false) :
 ∃ rs,st.line ⟨no,false,[[82],r1,[53],r2,[50]]⟩={ st with l:=[],seen:=[r2,r1],c:={ st.c with rows:=rs } }:=by
 have hn:nameB [82]=true:=by decide
 have hi0:¬ ((i:Int)<0):=by omega
 have hj0:¬ ((j:Int)<0):=by omega
 have h12':¬ r2=r1:=beq_eq_false_iff_ne.1 h12
 refine ⟨(st.c.rows.modify i fun x=>{ x with rhs:=fracText 5 }).modify j fun x=>{ x with rhs:=fracText 2 },?_⟩
 simp[CSt.line,hat,CSt.side,CSt.many,CSt.fails,CSt.word,he,hn,hs,CSt.pairs,CSt.pair,h1,h2,hi0,hj0,h12',CSt.number,litOf_five,litOf_two,CSt.put,setRowM]
theorem head_bounds {st:CSt}(no:Nat) (he:st.e=0) (hat:st.at_=4):st.line ⟨no,true,[bndH]⟩={ st with l:=[],at_:=6,seen:=[] }:=by
 have hk:idxT headsM bndH=6:=by decide
 simp[CSt.line,CSt.head,CSt.word,CSt.fails,he,hat,hk]
theorem bnd0_goes:∃ st,Goes (linesOf 1 bnd0) CSt.zero st∧BInv st ⟨[48],[],false⟩:=by
 rw[bnd0_lines]
 obtain ⟨rs,hside⟩:=side_two (st:=bSt [⟨[114],1,[(0,[49])],[48],[]⟩,⟨[115],3,[(1,[49])],[48],[]⟩,⟨[101],2,[(2,[49])],[48],[]⟩] [colX ⟨[48],[],false⟩,colY,colZ] 4 [([122],2),([121],1),([120],0)] [] false) 14 (r1:=[114]) (r2:=[101]) (i:=0) (j:=2) rfl rfl rfl rfl rfl (by decide)
 refine ⟨bSt rs [colX ⟨[48],[],false⟩,colY,colZ] 6 [([122],2),([121],1),([120],0)] [] false,?_,⟨rfl,rfl,rfl,rfl⟩⟩
 refine Goes.trans (A:=[_]) (Goes.one (head_name 1) rfl (by decide)) ?_
 refine Goes.trans (A:=[_]) (Goes.one (head_rows 2 rfl rfl) rfl (by decide)) ?_
 refine Goes.trans (A:=[_]) (Goes.one (row_obj 3 rfl rfl (by decide) (by decide) rfl rfl) rfl (by decide)) ?_
 refine Goes.trans (A:=[_]) (Goes.one (row_kind 4 (k:=1) (by decide) (by decide) rfl rfl (by decide) (by decide) rfl (by decide)) rfl (by decide)) ?_
 refine Goes.trans (A:=[_]) (Goes.one (row_kind 5 (k:=3) (by decide) (by decide) rfl rfl (by decide) (by decide) rfl (by decide)) rfl (by decide)) ?_
 refine Goes.trans (A:=[_]) (Goes.one (row_kind 6 (k:=2) (by decide) (by decide) rfl rfl (by decide) (by decide) rfl (by decide)) rfl (by decide)) ?_
 refine Goes.trans (A:=[_]) (Goes.one (head_cols 7 rfl rfl (by decide)) rfl (by decide)) ?_
 refine Goes.trans (A:=[_]) (Goes.one (col_two 8 (i:=0) rfl rfl (by decide) (by decide) rfl (by decide) rfl rfl (by decide)) rfl (by decide)) ?_
 refine Goes.trans (A:=[_]) (Goes.one (mark_line 9 rfl rfl (.inl rfl)) rfl (by decide)) ?_
 refine Goes.trans (A:=[_]) (Goes.one (col_two 10 (i:=1) rfl rfl (by decide) (by decide) rfl (by decide) rfl rfl (by decide)) rfl (by decide)) ?_
 refine Goes.trans (A:=[_]) (Goes.one (mark_line 11 rfl rfl (.inr rfl)) rfl (by decide)) ?_
 refine Goes.trans (A:=[_]) (Goes.one (col_new 12 (i:=2) rfl rfl (by decide) (by decide) (by decide) rfl (by decide) rfl) rfl (by decide)) ?_
 refine Goes.trans (A:=[_]) (Goes.one (head_rhs 13 rfl rfl) rfl (by decide)) ?_
 refine Goes.trans (A:=[_]) (Goes.one hside rfl (by show (4:Int)≠7;decide)) ?_
 exact Goes.one (head_bounds 15 rfl rfl) rfl (by show (6:Int)≠7;decide)
def bndText (l:List (Nat × Int)):Txt:=textOf (bnd0 ++ (bLines l ++ [endH]))
theorem bnd_is {l:List (Nat × Int)}(hl:l.length≤12) (h:∀ x∈l,x.1<9∧-100<x.2∧x.2<100):∃ c,coreGet (bndText l)=(c,0,0)∧c.cols = [colX (bFold ⟨[48],[],false⟩ l),colY,colZ]:=by
 unfold bndText
 rw[coreGet_text]
 ·obtain ⟨st,g,hi⟩:=bnd0_goes
  rw[linesOf_app,coreRun_goes g]
  exact bnd_run l _ hi h
 ·simp[bnd0,bLines];omega
 ·intro L hL
  rcases List.mem_append.1 hL with hL|hL
  ·have:∀ l∈bnd0,OkL l:=by decide +kernel
   exact this L hL
  ·rcases List.mem_append.1 hL with hL|hL
   ·obtain ⟨x,hx,rfl⟩:=List.mem_map.1 hL
    obtain ⟨x1,x2,x3⟩:=h x hx
    exact (bnd_facts x1 x2 x3).1
   ·rw[List.mem_singleton.1 hL];exact ok_head (.inr (.inr rfl))
end Vic
