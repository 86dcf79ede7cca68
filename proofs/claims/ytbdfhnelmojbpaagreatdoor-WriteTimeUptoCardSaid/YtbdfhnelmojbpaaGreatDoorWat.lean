/- What package strings computes at our calls: texts cut, over the shelf's contracts. -/
import Derived.Test.YtbdfhnelmojbpaaGreatDoorShelf
import Derived.Test.YtbdfhnelmojbpaaGreatDoorWas
import Derived.Test.YtbdfhnelmojbpaaGreatDoorWap
import Derived.Test.YtbdfhnelmojbpaaGreatDoorProg
import Derived.WalkSpells
import Derived.WalkLawsBesides
import Derived.Test.YtbdfhnelmojbpaaGreatDoorWaq
import Derived.Deep.QuietTactic
import Derived.BigQuiet
import Derived.Deep.DeepCutAuto
import Derived.Deep.CutBlock
import Derived.Deep.RegionLaw
import Derived.Deep.RegionWith
import Derived.Shelf.Strings.SlTrimAscii
import Derived.Lib.AtoiErrMem
import Derived.Maps.AppendAt
import Derived.Shelf.Strconv.AtoiAll
import Derived.Lib.Case
import Derived.Deep.RegionHeld3
import Derived.Lib.ConvBytes
set_option linter.unusedVariables false
set_option linter.unusedSimpArgs false
section
namespace Go.Proofs.YtbdfhnelmojbpaaGreatDoor
open Go.Shelf Go.RowKit Vic
theorem strings_Cut (w:World) (ht:Tab w) (s p:List UInt8) (hs:s.length<4294967281) :
 Calls Tryz.prog 54 #[.string ⟨s.toArray⟩,.string ⟨p.toArray⟩] w (Keeps (.tuple #[.string ⟨(Lib.cut s p).1.toArray⟩,.string ⟨(Lib.cut s p).2.1.toArray⟩,.bool (Lib.cut s p).2.2]) w):=by
 obtain ⟨m,hm⟩:=ht.maxLen
 refine (Go.Proofs.Tryz.strings_Cut ⟨s.toArray⟩ ⟨p.toArray⟩ m w (by show s.toArray.size<_;simpa using hs) hm).mono ?_
 rintro e w' ⟨rfl,n,rfl⟩
 exact ⟨rfl,Vic.Below.drewN_ (Below.refl _ _) _⟩
end Go.Proofs.YtbdfhnelmojbpaaGreatDoor
end
section
namespace Vic
open Go Go.RowKit
def GoodNat (l:List UInt8):Prop:=Canon l∧l.length≤2000
end Vic
namespace Go.Proofs.YtbdfhnelmojbpaaGreatDoor
open Go.RowKit Vic
end Go.Proofs.YtbdfhnelmojbpaaGreatDoor
end
section
namespace Vic
open Go Go.RowKit
def FracPtr (w:World) (v:Value) (q:Rat):Prop:=
 ∃ b pn pd,v=.pointer (some ⟨b,0,none⟩)∧w.cell? ⟨b,0,none⟩=some (.bool (decide (q.num<0)))∧w.cell? ⟨b,1,none⟩=some pn∧w.cell? ⟨b,2,none⟩=some pd∧NatAt w pn q.num.natAbs∧NatPtr w pd q.den
def FracAt (w:World) (v:Value) (q:Rat):Prop:=
 (v=.pointer none∧q=0)∨(∃ b x y,v=.pointer (some ⟨b,0,none⟩)∧w.cell? ⟨b,0,none⟩=some x∧w.cell? ⟨b,1,none⟩=some y∧w.cell? ⟨b,2,none⟩=some (.pointer none)∧q=0)∨FracPtr w v q
theorem FracPtr.at_ {w:World}{v:Value}{q:Rat}(h:FracPtr w v q):FracAt w v q:=.inr (.inr h)
theorem FracPtr.keep {w w':World}{v:Value}{q:Rat}(h:FracPtr w v q) (hb:Below w.heap.size w w'):FracPtr w' v q:=by
 obtain ⟨b,pn,pd,h1,h2,h3,h4,h5,h6⟩:=h
 exact ⟨b,pn,pd,h1,cell_keep h2 hb,cell_keep h3 hb,cell_keep h4 hb,h5.keep hb,h6.keep hb⟩
theorem FracAt.keep {w w':World}{v:Value}{q:Rat}(h:FracAt w v q) (hb:Below w.heap.size w w'):FracAt w' v q:=by
 rcases h with h|⟨b,x,y,h1,h2,h3,h4,h5⟩|h
 ·exact .inl h
 ·exact .inr (.inl ⟨b,x,y,h1,cell_keep h2 hb,cell_keep h3 hb,cell_keep h4 hb,h5⟩)
 ·exact .inr (.inr (h.keep hb))
end Vic
namespace Go.Proofs.YtbdfhnelmojbpaaGreatDoor
open Go.RowKit Vic
end Go.Proofs.YtbdfhnelmojbpaaGreatDoor
end
section
namespace Vic
open Go Go.RowKit
def fracText (q:Rat):List UInt8:=
 (if q.num<0 then [45]else []) ++ Lib.decDigits q.num.natAbs ++ (if q.den=1 then []else 47 :: Lib.decDigits q.den)
theorem dec_one:Lib.decDigits 1 = [49]:=by rw[dec_small (by omega)];rfl
end Vic
namespace Go.Proofs.YtbdfhnelmojbpaaGreatDoor
open Go.RowKit Vic
end Go.Proofs.YtbdfhnelmojbpaaGreatDoor
end
section
namespace Vic
open Go Go.RowKit
instance (l:List UInt8):Decidable (Canon l):=inferInstanceAs (Decidable (_∧_∧_))
instance (l:List UInt8):Decidable (GoodNat l):=inferInstanceAs (Decidable (_∧_))
def fracNeg (l:List UInt8):Bool:=Lib.hasPrefix l [45]
def fracTop (l:List UInt8):List UInt8:=(Lib.cut (Lib.trimPrefix l [45]) [47]).1
def fracBelow (l:List UInt8):List UInt8:=if (Lib.cut (Lib.trimPrefix l [45]) [47]).2.2 then (Lib.cut (Lib.trimPrefix l [45]) [47]).2.1 else [49]
def fracOf (l:List UInt8):Rat:=quo (fracNeg l) (numOf 0 (fracTop l)) (numOf 0 (fracBelow l))
def FracGood (l:List UInt8):Prop:=GoodNat (fracTop l)∧GoodNat (fracBelow l)∧numOf 0 (fracBelow l)≠0∧fracText (fracOf l)=l
end Vic
namespace Go.Proofs.YtbdfhnelmojbpaaGreatDoor
open Go.RowKit Vic
end Go.Proofs.YtbdfhnelmojbpaaGreatDoor
end
section
namespace Vic
open Go
def qv (neg:Bool) (n:Nat) (p:Int):Rat:=if 0≤p then quo neg (n*10 ^ p.toNat) 1 else quo neg n (10 ^ (-p).toNat)
end Vic
end
section
namespace Vic
open Go
def expD (neg:Bool) (t:List UInt8):Option Int:=if t≠[]∧t.length≤3∧(∀ c∈t,isDig c=true)∧numOf 0 t≤100 then some (sgn neg (numOf 0 t))else none
def expo:List UInt8→Option Int
 | []=>none
 | c :: r=>if c=43 then expD false r else if c=45 then expD true r else expD false (c :: r)
def mantOk (a b:List UInt8):Prop:=a ++ b≠[]∧(∀ c∈a,isDig c=true)∧(∀ c∈b,isDig c=true)
instance (a b:List UInt8):Decidable (mantOk a b):=inferInstanceAs (Decidable (_∧_∧_))
def mant (m:List UInt8) (e:Int):Option (Nat × Int):=
 if mantOk (Lib.cut m [46]).1 (Lib.cut m [46]).2.1 then some (numOf 0 ((Lib.cut m [46]).1 ++ (Lib.cut m [46]).2.1),e - (Lib.cut m [46]).2.1.length)else none
def litBody (t:List UInt8):Option (Nat × Int):=
 if Lib.indexAny t [101,69]<0 then mant t 0 else (expo (t.drop ((Lib.indexAny t [101,69]).toNat+1))).bind (mant (t.take (Lib.indexAny t [101,69]).toNat))
def neg0 (s:List UInt8):Bool:=s.head? == some 45
def strip:List UInt8→List UInt8
 | []=>[]
 | c :: r=>if c=45∨c=43 then r else c :: r
end Vic
end
section
namespace Vic
open Go
abbrev CoefM:=Int × Txt
structure RowM where
 name:Txt
 kind:Int
 coef:List CoefM
 rhs:Txt
 range:Txt
structure ColM where
 name:Txt
 low:Txt
 up:Txt
 cost:Txt
 int:Bool
structure CoreM where
 name:Txt
 obj:Txt
 rows:List RowM
 cols:List ColM
open Classical in
noncomputable def litOf (s:Txt):Option Rat:=if 40<s.length then none else if FracGood s then some (fracOf s)else (litBody (strip s)).map fun p=>qv (neg0 s) p.1 p.2
def idxT (l:List Txt) (s:Txt):Int:=match l.findIdx? (fun x=>x == s)with|some i=>(i:Nat)|none=>-1
def headsM:List Txt:=[[],[78,65,77,69],[82,79,87,83],[67,79,76,85,77,78,83],[82,72,83],[82,65,78,71,69,83],[66,79,85,78,68,83],[69,78,68,65,84,65]]
def kindsM:List Txt:=[[78],[76],[69],[71]]
def markerM:Txt:=[39,77,65,82,75,69,82,39]
def intorgM:Txt:=[39,73,78,84,79,82,71,39]
def intendM:Txt:=[39,73,78,84,69,78,68,39]
def rhsM:Txt:=[82,72,83]
structure CSt where
 c:CoreM
 at_:Int
 rows:List (Txt × Int)
 cols:List (Txt × Int)
 seen:List Txt
 integer:Bool
 l:List Txt
 e:Int
def atT (l:List (Txt × Int)) (s:Txt):Option Int:=(l.find? fun p=>p.1 == s).map (·.2)
def CSt.fails (st:CSt) (b:Bool) (e:Int):CSt:=if b && st.e == 0 then { st with e:=e }else st
def CSt.word (st:CSt):Txt × CSt:=
 let st:=st.fails st.l.isEmpty 1
 if st.e=0 then (st.l.headD [],{ st with l:=st.l.tail })else ([],st)
noncomputable def CSt.number (st:CSt):Option Rat × CSt:=
 let s:=st.word
 (litOf s.1,s.2.fails (litOf s.1).isNone 1)
def CSt.head (st:CSt):CSt:=
 let s:=st.word
 let next:=idxT headsM s.1
 let late:=s.2.at_ == 4 || s.2.at_ == 5
 let ok:=next == s.2.at_+1 || next == 6 && late || next == 7 && (late || s.2.at_ == 6)
 let st:=s.2.fails (!ok || next == 0) 5
 let st:=if next=1∧st.e=0 then
     let s:=st.word
     let st:={ s.2 with c:={ s.2.c with name:=s.1 } }
     let st:=st.fails (!st.l.isEmpty) 1
     st.fails (!nameB s.1) 4
  else st
 let st:=st.fails (!st.l.isEmpty) 1
 let st:=st.fails (next == 3 && st.c.obj.isEmpty) 5
 { st with at_:=next,seen:=[] }
def CSt.many (st:CSt) (ns:List Int):CSt:=st.fails (!ns.contains (st.l.length:Int)) 1
def CSt.rowEnd (st:CSt) (kind:Int) (s:Txt):CSt:=
 if st.e≠0 then st
 else if kind=0 then { st with c:={ st.c with obj:=s },rows:=(s,-1) :: st.rows }
 else { st with rows:=(s,(st.c.rows.length:Nat)) :: st.rows,c:={ st.c with rows:=st.c.rows ++ [(⟨s,kind,[],[48],[]⟩:RowM)] } }
def CSt.row (st:CSt):CSt:=
 let st:=st.many [2]
 let k:=st.word
 let kind:=idxT kindsM k.1
 let st:=k.2.fails (decide (kind<0)) 1
 let st:=st.fails (kind == 0 && !st.c.obj.isEmpty) 7
 let s:=st.word
 let st:=s.2.fails (!nameB s.1 || s.1 == markerM || (atT s.2.rows s.1).isSome) 4
 let st:=st.fails (decide (0<kind) && decide ((40:Int)≤(st.c.rows.length:Nat))) 6
 st.rowEnd kind s.1
def CSt.marks (st:CSt):CSt:=
 let st:={ st with l:=st.l.drop 2 }
 let s:=st.word
 let st:=s.2.fails (s.1 != intorgM && s.1 != intendM) 1
 let st:=st.fails ((s.1 == intorgM) == st.integer) 5
 { st with integer:=s.1 == intorgM }
def setRowM (c:CoreM) (i:Nat) (f:RowM→RowM):CoreM:={ c with rows:=c.rows.modify i f }
def setColM (c:CoreM) (i:Nat) (f:ColM→ColM):CoreM:={ c with cols:=c.cols.modify i f }
noncomputable def CSt.put (st:CSt) (row:Int) (q:Rat):CSt:=
 if st.at_=3 then
  if row<0 then { st with c:=setColM st.c (st.c.cols.length - 1) fun x=>{ x with cost:=fracText q } }
  else if q=0 then st
  else { st with c:=setRowM st.c row.toNat fun x=>{ x with coef:=x.coef ++ [(((st.c.cols.length:Int) - 1,fracText q):CoefM)] } }
 else if st.at_=4 then { st with c:=setRowM st.c row.toNat fun x=>{ x with rhs:=fracText q } }
 else { st with c:=setRowM st.c row.toNat fun x=>{ x with range:=fracText q } }
noncomputable def CSt.pair (st:CSt):CSt:=
 let s:=st.word
 let row:=atT s.2.rows s.1
 let st:=s.2.fails (row.isNone || s.2.seen.contains s.1) 4
 let st:=st.fails (decide (row.getD 0<0) && st.at_ != 3) 7
 let q:=st.number
 if q.2.e≠0 then q.2 else ({ q.2 with seen:=s.1 :: q.2.seen }).put (row.getD 0) (q.1.getD 0)
noncomputable def CSt.pairs (st:CSt):CSt:=
 let st:=st.pair
 if st.e=0∧st.l≠[]then st.pair else st
noncomputable def CSt.column (st:CSt):CSt:=
 let st:=st.many [3,5]
 if st.l.length=3∧st.l[1]?=some markerM then st.marks
 else
  let s:=st.word
  let st:=s.2
  let at_:=atT st.cols s.1
  if at_=some ((st.c.cols.length:Int) - 1)then st.pairs
  else
   let st:=st.fails (at_.isSome || !nameB s.1 || s.1 == rhsM) 4
   let st:=st.fails (decide ((40:Int)≤(st.c.cols.length:Nat))) 6
   if st.e≠0 then st
   else
    let st:={ st with cols:=(s.1,(st.c.cols.length:Nat)) :: st.cols,c:={ st.c with cols:=st.c.cols ++ [(⟨s.1,[48],[],[48],st.integer⟩:ColM)] },seen:=[] }
    st.pairs
noncomputable def CSt.side (st:CSt):CSt:=
 let st:=st.many [3,5]
 let s:=st.word
 (s.2.fails (!nameB s.1) 4).pairs
def infM (s:Txt):Int:=
 let t:=Lib.toLowerA s
 if t = [105,110,102]∨t = [43,105,110,102]∨t = [105,110,102,105,110,105,116,121]∨t = [49,101,51,48]then 1
 else if t = [45,105,110,102]∨t = [45,105,110,102,105,110,105,116,121]∨t = [45,49,101,51,48]then -1 else 0
noncomputable def CSt.bound (st:CSt) (inf:Int):Txt × CSt:=
 let s:=st.word
 if infM s.1≠0∧inf≠0 then ([],s.2.fails (infM s.1 != inf) 1)
 else (fracText ((litOf s.1).getD 0),s.2.fails (litOf s.1).isNone 1)
def longM:List Txt:=[[85,80],[76,79],[70,88],[76,73],[85,73]]
def aloneM:List Txt:=[[70,82],[77,73],[80,76],[66,86]]
def CSt.colSet (st:CSt) (col:Nat) (f:ColM→ColM):CSt:={ st with c:=setColM st.c col f }
noncomputable def CSt.bounds (st:CSt):CSt:=
 let k:=st.l.headD []
 let st:=if k∈longM then st.many [4]else if k∈aloneM then st.many [3]else st.fails true 1
 let kind:=st.word
 let b:=kind.2.word
 let st:=b.2.fails (!nameB b.1) 4
 let cn:=st.word
 let col:=atT cn.2.cols cn.1
 let st:=cn.2.fails col.isNone 4
 let at_:=(col.getD 0).toNat
 if st.e≠0 then st
 else if kind.1 = [85,80]then
  let x:=st.bound 1
  x.2.colSet at_ fun y=>{ y with up:=x.1 }
 else if kind.1 = [76,79]then
  let x:=st.bound (-1)
  x.2.colSet at_ fun y=>{ y with low:=x.1 }
 else if kind.1 = [70,88]then
  let x:=st.bound 0
  x.2.colSet at_ fun y=>{ y with low:=x.1,up:=x.1 }
 else if kind.1 = [76,73]then
  let x:=st.bound 0
  x.2.colSet at_ fun y=>{ y with int:=true,low:=x.1 }
 else if kind.1 = [85,73]then
  let x:=st.bound 0
  x.2.colSet at_ fun y=>{ y with int:=true,up:=x.1 }
 else if kind.1 = [70,82]then st.colSet at_ fun y=>{ y with low:=[],up:=[] }
 else if kind.1 = [77,73]then st.colSet at_ fun y=>{ y with low:=[] }
 else if kind.1 = [80,76]then st.colSet at_ fun y=>{ y with up:=[] }
 else if kind.1 = [66,86]then st.colSet at_ fun y=>{ y with int:=true,low:=[48],up:=[49] }
 else st
noncomputable def CSt.line (st:CSt) (x:LineM):CSt:=
 let st:={ st with l:=x.words }
 if x.head then st.head
 else if st.at_=2 then st.row
 else if st.at_=3 then st.column
 else if st.at_=4∨st.at_=5 then st.side
 else if st.at_=6 then st.bounds
 else st.fails true 5
def noCore:CoreM:=⟨[],[],[],[]⟩
def CSt.zero:CSt:=⟨noCore,0,[],[],[],false,[],0⟩
end Vic
end
section
namespace Vic
open Go
abbrev PerM:=Txt × Txt × Txt
structure PSt where
 name:Txt
 ps:List PerM
 at_:Nat
def timeHeads:List Txt:=[[84,73,77,69],[80,69,82,73,79,68,83],[69,78,68,65,84,65]]
def PSt.head (st:PSt) (l:List Txt):Int × PSt:=
 if 3≤st.at_∨timeHeads[st.at_]?≠l.head? then (5,st)
 else
  let st:={ st with at_:=st.at_+1 }
  if (st.at_=1∧l.length≠2)∨(st.at_=2∧2<l.length)∨(st.at_=3∧1<l.length)then (1,st)
  else if st.at_=1 then if nameB (l.getD 1 [])then (0,{ st with name:=l.getD 1 [] })else (4,st)
  else (0,st)
def PSt.line (st:PSt) (l:List Txt):Int × PSt:=
 if st.at_≠2 then (5,st)
 else if l.length≠3 then (1,st)
 else if nameB (l.getD 0 []) && nameB (l.getD 1 []) && nameB (l.getD 2 [])then
  if 20≤st.ps.length then (6,st)else (0,{ st with ps:=st.ps ++ [(l.getD 0 [],l.getD 1 [],l.getD 2 [])] })
 else (4,st)
def PSt.step (st:PSt) (x:LineM):Int × PSt:=if x.head then st.head x.words else st.line x.words
def timeRun:List LineM→PSt→Txt × List PerM × Nat × Int
 | [],_=>([],[],0,5)
 | x :: ls,st=>
   if (st.step x).1≠0 then ([],[],x.no,(st.step x).1)
   else if (st.step x).2.at_=3 then ((st.step x).2.name,(st.step x).2.ps,0,0)
   else timeRun ls (st.step x).2
def timeGet (t:Txt):Txt × List PerM × Nat × Int:=
 let g:=wordsGet t
 if g.2.2≠0 then ([],[],g.2.1,g.2.2)else timeRun g.1 ⟨[],[],0⟩
def rowIx (c:CoreM) (s:Txt):Int:=idxT (c.rows.map (·.name)) s
def rowAt (c:CoreM) (s:Txt):Int:=if s=c.obj then 0 else if rowIx c s<0 then rowIx c s else rowIx c s+1
end Vic
end
section
namespace Vic
open Go
def joinT:List Txt→Txt
 | []=>[]
 | [a]=>a
 | a :: b :: l=>a ++ 32 :: joinT (b :: l)
def lineT (l:List Txt):Txt:=joinT l ++ [10]
end Vic
end
section
namespace Vic
open Go
def linesOf:Nat→List Txt→List LineM
 | _,[]=>[]
 | no,s :: ls=>lineOf no s ++ linesOf (no+1) ls
theorem linesOf_app:∀ (a b:List Txt) (no:Nat),linesOf no (a ++ b)=linesOf no a ++ linesOf (no+a.length) b
 | [],b,no=>by simp[linesOf]
 | s :: a,b,no=>by
   rw[List.cons_append,linesOf,linesOf,linesOf_app a b,List.append_assoc,List.length_cons,show no+1+a.length=no+(a.length+1) by omega]
theorem getFrom_good:∀ (ls:List Txt) (no:Nat) (acc:List LineM),no+ls.length≤2501→(∀ l∈ls,lookB l=0)→getFrom no ls acc=(acc ++ linesOf no ls,0,0)
 | [],no,acc,_,_=>by simp[getFrom,linesOf]
 | s :: ls,no,acc,h,hl=>by
   rw[List.length_cons]at h
   rw[getFrom,if_neg (by omega),hl s (by simp),if_neg (by simp),getFrom_good ls (no+1) _ (by omega) (fun l h=>hl l (by simp[h])),linesOf,List.append_assoc]
def textOf (ls:List Txt):Txt:=ls.flatMap fun l=>l ++ [10]
theorem textOf_app (a b:List Txt):textOf (a ++ b)=textOf a ++ textOf b:=by simp[textOf]
def OkL (l:Txt):Prop:=lookB l=0∧(10:UInt8)∉l
instance (l:Txt):Decidable (OkL l):=inferInstanceAs (Decidable (_∧_))
theorem wordsGet_text {ls:List Txt}(hl:ls.length≤2500) (h:∀ l∈ls,OkL l):wordsGet (textOf ls)=(linesOf 1 ls,0,0):=by
 have h1:=spl_lines ls [] fun l hl=>(h l hl).2
 rw[List.append_nil,show spl [] = []from rfl,List.append_nil]at h1
 unfold wordsGet textOf
 rw[h1,getFrom_good ls 1 [] (by omega) (fun l hl=>(h l hl).1),List.nil_append]
end Vic
end
section
namespace Vic
open Go
def WordB (s:Txt):Prop:=s≠[]∧∀ c∈s,badC c=false
theorem WordB.of {s:Txt}(h:nameB s=true):WordB s:=⟨(name_c h).1,(name_c h).2.2⟩
theorem flds_join:∀ (ws:List Txt),(∀ s∈ws,WordB s)→fldsP blankC (joinT ws) []=ws
 | [],_=>rfl
 | [a],h=>by
   have ha:=h a (by simp)
   have:=flds_word (p:=blankC) a [] [] fun c hc=>(badC_c (ha.2 c hc)).1
   rw[List.append_nil,List.nil_append]at this
   rw[show joinT [a]=a from rfl,this,fldsP,if_neg ha.1]
 | a :: b :: l,h=>by
   have ha:=h a (by simp)
   rw[show joinT (a :: b :: l)=a ++ 32 :: joinT (b :: l)from rfl,flds_word (p:=blankC) a _ [] fun c hc=>(badC_c (ha.2 c hc)).1,List.nil_append,flds_end _ _ (by decide) ha.1,flds_join (b :: l) fun s hs=>h s (by simp[hs])]
theorem flds_sp (a:Txt) (l:List Txt) (h:∀ s∈a :: l,WordB s):fieldsB (joinT ([] :: a :: l))=a :: l:=by
 show fldsP blankC (32 :: joinT (a :: l)) []=_
 rw[fldsP]
 exact flds_join (a :: l) h
theorem join_mem:∀ (ws:List Txt) (c:UInt8),c∈joinT ws→c=32∨∃ s∈ws,c∈s
 | [],c,h=>by cases h
 | [a],c,h=>.inr ⟨a,by simp,h⟩
 | a :: b :: l,c,h=>by
   rw[show joinT (a :: b :: l)=a ++ 32 :: joinT (b :: l)from rfl,List.mem_append,List.mem_cons]at h
   rcases h with h|h|h
   ·exact .inr ⟨a,by simp,h⟩
   ·exact .inl h
   ·rcases join_mem (b :: l) c h with h|⟨s,hs,hc⟩
    ·exact .inl h
    ·exact .inr ⟨s,by simp only[List.mem_cons]at hs ⊢;exact .inr hs,hc⟩
theorem trim_sub (s:Txt):∀ c∈trimCr s,c∈s:=by
 intro c hc
 unfold trimCr Lib.trimSuffix at hc
 split at hc
 ·exact List.mem_of_mem_take hc
 ·exact hc
theorem ok_join (ws:List Txt) (h:∀ s∈ws,s = []∨WordB s) (hl:(joinT ws).length≤200):OkL (joinT ws):=by
 have hm:∀ c∈joinT ws,badL c=false∧c≠10:=fun c hc=>by
  rcases join_mem ws c hc with rfl|⟨s,hs,hc⟩
  ·decide
  ·rcases h s hs with rfl|h
   ·cases hc
   ·exact ⟨(badC_c (h.2 c hc)).2.1,(badC_c (h.2 c hc)).2.2.1⟩
 refine ⟨?_,fun h=>(hm _ h).2 rfl⟩
 unfold lookB
 rw[if_neg (by omega),if_neg]
 rw[Bool.not_eq_true,List.any_eq_false]
 intro c hc
 rw[(hm c (trim_sub _ c hc)).1]
 decide
theorem line_words (no:Nat) (a:Txt) (l:List Txt) (h:∀ s∈a :: l,WordB s):lineOf no (joinT ([] :: a :: l)) = [⟨no,false,a :: l⟩]:=by
 unfold lineOf
 rw[flds_sp a l h,if_neg (by
  rintro (h|h)
  ·cases h
  ·have:(joinT ([] :: a :: l)).head?=some 32:=rfl
   rw[this]at h;cases h)]
 rfl
theorem line_head (no:Nat) (c:UInt8) (t:Txt) (l:List Txt) (hc:c≠42) (h:∀ s∈(c :: t) :: l,WordB s):lineOf no (joinT ((c :: t) :: l)) = [⟨no,true,(c :: t) :: l⟩]:=by
 have hb:=badC_c ((h (c :: t) (by simp)).2 c (by simp))
 have hh:(joinT ((c :: t) :: l)).head?=some c:=by cases l<;>rfl
 have h1:c≠32:=fun e=>by rw[e]at hb;exact absurd hb.1 (by decide)
 have h2:c≠9:=fun e=>by rw[e]at hb;exact absurd hb.1 (by decide)
 unfold lineOf
 rw[show fieldsB (joinT ((c :: t) :: l))=(c :: t) :: l from flds_join _ h,hh,if_neg (by
  rintro (h|h)
  ·cases h
  ·injection h with h;exact hc h)]
 simp[h1,h2]
theorem join_len:∀ (ws:List Txt),(joinT ws).length+1=(ws.map fun s=>s.length+1).sum+(if ws = []then 1 else 0)
 | []=>rfl
 | [a]=>by simp[joinT]
 | a :: b :: l=>by
   have:=join_len (b :: l)
   simp only[List.map_cons,List.sum_cons,reduceCtorEq,if_false]at this ⊢
   rw[show joinT (a :: b :: l)=a ++ 32 :: joinT (b :: l)from rfl,List.length_append,List.length_cons]
   omega
def timeT:Txt:=[84,73,77,69]
def periodsT:Txt:=[80,69,82,73,79,68,83]
def endataT:Txt:=[69,78,68,65,84,65]
def perWords (p:PerM):List Txt:=[[],p.1,p.2.1,p.2.2]
def timeLines (name:Txt) (ps:List PerM):List Txt:=[joinT [timeT,name],joinT [periodsT]] ++ (ps.map fun p=>joinT (perWords p)) ++ [joinT [endataT]]
def timeText (name:Txt) (ps:List PerM):Txt:=textOf (timeLines name ps)
def okPer (p:PerM):Bool:=nameB p.1 && nameB p.2.1 && nameB p.2.2
theorem timeRun_pers (B:List LineM):∀ (qs:List PerM) (no:Nat) (st:PSt),st.at_=2→st.ps.length+qs.length≤20→(∀ p∈qs,okPer p=true) →
 timeRun (linesOf no (qs.map fun p=>joinT (perWords p)) ++ B) st=timeRun B { st with ps:=st.ps ++ qs }
 | [],no,st,_,_,_=>by simp[linesOf]
 | p :: qs,no,st,hat,hl,hp=>by
   have h1:=hp p (by simp)
   unfold okPer at h1
   simp only[Bool.and_eq_true]at h1
   obtain ⟨⟨h1,h2⟩,h3⟩:=h1
   have hw:∀ s∈[p.1,p.2.1,p.2.2],WordB s:=fun s hs=>by
    simp only[List.mem_cons,List.mem_singleton,List.not_mem_nil,or_false]at hs
    rcases hs with rfl|rfl|rfl
    ·exact WordB.of h1
    ·exact WordB.of h2
    ·exact WordB.of h3
   have hL:=line_words no p.1 [p.2.1,p.2.2] hw
   have hstep:st.step ⟨no,false,[p.1,p.2.1,p.2.2]⟩=(0,{ st with ps:=st.ps ++ [p] }):=by
    have e:st.step ⟨no,false,[p.1,p.2.1,p.2.2]⟩=st.line [p.1,p.2.1,p.2.2]:=rfl
    rw[List.length_cons]at hl
    rw[e]
    unfold PSt.line
    rw[if_neg (by omega),if_neg (by simp),if_pos (by simp[h1,h2,h3]),if_neg (by omega)]
    rfl
   have hr:=timeRun_pers B qs (no+1) { st with ps:=st.ps ++ [p] } hat (by
    rw[List.length_cons]at hl
    show (st.ps ++ [p]).length+qs.length≤20
    rw[List.length_append,List.length_singleton]
    omega) fun q hq=>hp q (by simp[hq])
   rw[List.map_cons,linesOf,show joinT (perWords p)=joinT ([] :: p.1 :: [p.2.1,p.2.2])from rfl,hL,List.append_assoc,List.singleton_append,timeRun,hstep]
   dsimp only
   rw[if_neg (by simp),if_neg (by rw[hat];decide),hr]
   simp
theorem timeLines_ok {name:Txt}{ps:List PerM}(hn:nameB name=true) (hp:∀ p∈ps,okPer p=true):∀ l∈timeLines name ps,OkL l:=by
 have hln:∀ {s:Txt},nameB s=true→s.length≤20:=fun h=>(name_c h).2.1
 intro l hl
 unfold timeLines at hl
 simp only[List.mem_append,List.mem_cons,List.not_mem_nil,or_false,List.mem_map]at hl
 rcases hl with ((rfl|rfl)|⟨p,hpm,rfl⟩)|rfl
 ·refine ok_join _ (fun s hs=>?_) ?_
  ·simp only[List.mem_cons,List.not_mem_nil,or_false]at hs
   rcases hs with rfl|rfl
   ·exact .inr ⟨by decide,by decide⟩
   ·exact .inr (WordB.of hn)
  ·have:=hln hn
   show (timeT ++ 32 :: name).length≤200
   simp[timeT];omega
 ·decide
 ·have h1:=hp p hpm
  unfold okPer at h1
  simp only[Bool.and_eq_true]at h1
  obtain ⟨⟨h1,h2⟩,h3⟩:=h1
  refine ok_join _ (fun s hs=>?_) ?_
  ·simp only[perWords,List.mem_cons,List.not_mem_nil,or_false]at hs
   rcases hs with rfl|rfl|rfl|rfl
   ·exact .inl rfl
   ·exact .inr (WordB.of h1)
   ·exact .inr (WordB.of h2)
   ·exact .inr (WordB.of h3)
  ·have e1:=hln h1;have e2:=hln h2;have e3:=hln h3
   show ([] ++ 32 :: (p.1 ++ 32 :: (p.2.1 ++ 32 :: p.2.2))).length≤200
   simp;omega
 ·decide
theorem time_again {name:Txt}{ps:List PerM}(hn:nameB name=true) (hl:ps.length≤20) (hp:∀ p∈ps,okPer p=true):timeGet (timeText name ps)=(name,ps,0,0):=by
 have hlen:(timeLines name ps).length≤2500:=by simp[timeLines];omega
 have h1:∀ no,lineOf no (joinT [timeT,name]) = [⟨no,true,[timeT,name]⟩]:=fun no=>line_head no 84 [73,77,69] [name] (by decide) fun s hs=>by
  simp only[List.mem_cons,List.not_mem_nil,or_false]at hs
  rcases hs with rfl|rfl
  ·exact ⟨by decide,by decide⟩
  ·exact WordB.of hn
 have h2:∀ no,lineOf no (joinT [periodsT]) = [⟨no,true,[periodsT]⟩]:=fun no=>line_head no 80 _ [] (by decide) fun s hs=>by
  simp only[List.mem_cons,List.not_mem_nil,or_false]at hs
  subst hs;exact ⟨by decide,by decide⟩
 have h3:∀ no,lineOf no (joinT [endataT]) = [⟨no,true,[endataT]⟩]:=fun no=>line_head no 69 _ [] (by decide) fun s hs=>by
  simp only[List.mem_cons,List.not_mem_nil,or_false]at hs
  subst hs;exact ⟨by decide,by decide⟩
 unfold timeGet timeText
 rw[wordsGet_text hlen (timeLines_ok hn hp)]
 dsimp only
 rw[if_neg (by simp)]
 have e:linesOf 1 (timeLines name ps)=⟨1,true,[timeT,name]⟩ :: ⟨2,true,[periodsT]⟩ :: (linesOf 3 (ps.map fun p=>joinT (perWords p)) ++ linesOf (3+ps.length) [joinT [endataT]]):=by
  unfold timeLines
  rw[List.append_assoc,List.cons_append,List.cons_append,List.nil_append,linesOf,linesOf,h1,h2,linesOf_app,List.length_map]
  rfl
 have s1:(⟨[],[],0⟩:PSt).step ⟨1,true,[timeT,name]⟩=(0,⟨name,[],1⟩):=by
  show (⟨[],[],0⟩:PSt).head [timeT,name]=_
  unfold PSt.head
  rw[if_neg (by simp[timeHeads,timeT,periodsT,endataT])]
  simp[hn]
 have s2:(⟨name,[],1⟩:PSt).step ⟨2,true,[periodsT]⟩=(0,⟨name,[],2⟩):=by
  show (⟨name,[],1⟩:PSt).head [periodsT]=_
  unfold PSt.head
  rw[if_neg (by simp[timeHeads,timeT,periodsT,endataT])]
  simp
 have s3:∀ no,(⟨name,ps,2⟩:PSt).step ⟨no,true,[endataT]⟩=(0,⟨name,ps,3⟩):=fun no=>by
  show (⟨name,ps,2⟩:PSt).head [endataT]=_
  unfold PSt.head
  rw[if_neg (by simp[timeHeads,timeT,periodsT,endataT])]
  simp
 rw[e,timeRun,s1]
 dsimp only
 rw[if_neg (by simp),if_neg (by decide),timeRun,s2]
 dsimp only
 rw[if_neg (by simp),if_neg (by decide)]
 have hr:=timeRun_pers (linesOf (3+ps.length) [joinT [endataT]]) ps 3 ⟨name,[],2⟩ rfl (by simpa using hl) hp
 rw[hr,linesOf,h3,List.nil_append]
 simp only[List.singleton_append,linesOf]
 rw[timeRun,s3]
 rfl
end Vic
end
section
namespace Vic
open Go Go.RowKit
theorem joinT_lib:∀ xs:List Txt,Lib.join xs [32]=joinT xs
 | []=>rfl
 | [a]=>Lib.join_one a [32]
 | a :: b :: l=>by
   have ih:=joinT_lib (b :: l)
   rw[show joinT (a :: b :: l)=a ++ 32 :: joinT (b :: l)from rfl,← ih]
   simp[Lib.join,List.intercalate]
end Vic
namespace Go.Proofs.YtbdfhnelmojbpaaGreatDoor
open Go.RowKit Vic
set_option maxRecDepth 100000 in
set_option maxHeartbeats 2000000 in
theorem file_line (B b:Nat) (bad:Bool) (l:Txt) (w:World) (g o c:Nat) (xs:List Txt) (hcells:∀ (j:Nat) x,xs[j]?=some x→w.cell? ⟨g,o+j,none⟩=some (.string ⟨x.toArray⟩)) (hg:g<w.heap.size) (hc:xs.length≤c) (hn:xs.length≤1000000)
 (h:FileIn w B b bad l) (hl:l.length≤100000000000) (hj:(joinT xs).length≤100000000000) (hBw:B≤w.heap.size) :
 Calls Tryz.prog 48 #[.pointer (some ⟨b,0,none⟩),.slice (some ⟨g,o,none⟩) xs.length c] w fun e w'=>e=.returned (.tuple #[])∧FileIn w' B b bad (l ++ lineT xs)∧Below B w w':=by
 have hx:(xs.map fun x=>(⟨x.toArray⟩:ByteArray)).map (·.data.toList)=xs:=by rw[List.map_map];exact List.map_id' _
 have CJ:Hid (∀ W,Below w.heap.size w W→Calls Tryz.prog 115 #[.slice (some ⟨g,o,none⟩) xs.length c,.string ⟨#[32]⟩] W fun e w'=>e=.returned (.string ⟨(joinT xs).toArray⟩)∧Below W.heap.size W w'):=Lib.hid fun W hW=>by
  have:=Go.Proofs.Tryz.strings_Join g o c (xs.map fun x=>(⟨x.toArray⟩:ByteArray)) ⟨#[32]⟩ W (fun j x hx=>by
   rw[List.getElem?_map]at hx
   obtain ⟨y,hy,rfl⟩:=Option.map_eq_some_iff.1 hx
   exact cell_keep (hcells j y hy) hW) (Nat.lt_of_lt_of_le hg hW.size) (by rw[List.length_map];omega) (by rw[List.length_map];exact hc) (by rw[hx,show (⟨#[32]⟩:ByteArray).data.toList = [32]from rfl,joinT_lib];omega)
  rw[hx,show (⟨#[32]⟩:ByteArray).data.toList = [32]from rfl,joinT_lib,List.length_map]at this
  exact this
 obtain ⟨J,hJ⟩:∃ J,J=joinT xs:=⟨_,rfl⟩
 have hlt:lineT xs=J ++ [10]:=by rw[hJ];rfl
 rw[← hJ]at CJ hj
 rw[hlt]
 have HF:=Lib.hid h;have HBW:=Lib.hid hBw
 have hcat:(⟨J.toArray⟩:ByteArray) ++ ⟨#[10]⟩=⟨(J ++ [10]).toArray⟩:=by apply ByteArray.ext;simp
 have hlj:¬ 9223372036854775807<J.length+1:=by omega
 clear hx hJ hlt h hcells hg hBw
 go_enter Tryz.func48,Tryz.ntmps48
 go_region_held3 (fun _=>True) (exact trivial)
  (first
   | (go_at_call 115;refine (CJ.out _ ((Below.refl _ _).drew)).mono ?_;rintro e w2 ⟨rfl,hb2⟩;have CW:=fwrite B b bad l (J ++ [10]) w2 (HF.out.keep (((Below.refl _ _).drew).trans hb2)) (by simp;omega) (Nat.le_trans HBW.out hb2.size))
   | (go_at_call 114;refine CW.mono ?_;rintro e w3 ⟨rfl,hf3,hb3⟩))
 have hb:=(Below.refl w.heap.size w).drew.trans hb2
 have HB:=Lib.hid ((hb.mono HBW.out).trans hb3)
 have HF3:=Lib.hid hf3
 clear hf3 hb3 hb2 hb CW
 go_wp2_with fail
 go_end0
 exact ⟨rfl,.inr HF3.out,HB.out⟩
set_option maxRecDepth 100000 in
set_option maxHeartbeats 2000000 in
theorem file_told (B b:Nat) (bad:Bool) (l:Txt) (w:World) (h:FileIn w B b bad l) (h0:l≠[]) (hBw:B≤w.heap.size) :
 Calls Tryz.prog 49 #[.pointer (some ⟨b,0,none⟩)] w fun e w'=>e=.returned (.tuple #[.string ⟨(if bad then []else l).toArray⟩,.bool (!bad)])∧Below B w w':=by
 obtain ⟨p,hf⟩:=h.open
 have c2:=h.cell2.1
 have CS:=Lib.hid (fstring B b p bad l w hf h0)
 clear h hf h0
 cases bad
 ·go_enter Tryz.func49,Tryz.ntmps49
  go_wp2_with fail
  refine CS.out.mono ?_
  rintro e w1 ⟨rfl,hb⟩
  go_wp2_with fail
  go_ret2
  exact ⟨rfl,hb⟩
 ·go_enter Tryz.func49,Tryz.ntmps49
  go_wp2_with fail
  go_ret2
  exact ⟨rfl,Below.refl _ _⟩
end Go.Proofs.YtbdfhnelmojbpaaGreatDoor
end
section
namespace Vic
open Go Go.RowKit
def StrTy (w:World) (g o:Nat) (s:Txt):Prop:=(∃ cur fr,w.heap[g]?=some (.cells cur 9 fr))∧StrR w g o s
theorem StrTy.firm:Firm StrTy:=fun w w' g o x ⟨⟨cur,fr,h⟩,k⟩ hb=>⟨⟨cur,fr,(hb.block g (block_lt k)).trans h⟩,StrR.firm _ _ _ _ _ k hb⟩
abbrev StrsTy (w:World) (v:Value) (l:List Txt):Prop:=SlIn StrTy 1 w v l
theorem StrsTy.strs {w:World}{v:Value}{l:List Txt}(h:StrsTy w v l):StrsIn w v l:=h.imp fun _ _ _ _ h=>h.2
end Vic
namespace Go.Proofs.YtbdfhnelmojbpaaGreatDoor
open Go.Shelf Go.RowKit Vic
theorem strings_TrimSuffix (w:World) (s p:List UInt8) (hs:s.length≤9223372036854775807) :
 Calls Tryz.prog 130 #[.string ⟨s.toArray⟩,.string ⟨p.toArray⟩] w (Rets (.string ⟨(Lib.trimSuffix s p).toArray⟩) w):=by
 refine (Go.Proofs.Tryz.strings_TrimSuffix (s:=⟨s.toArray⟩) (p:=⟨p.toArray⟩) (hs:=by show s.toArray.size≤_;simpa using hs) (w:=w)).mono ?_
 rintro e w' ⟨rfl,rfl⟩
 exact ⟨rfl,rfl⟩
theorem blank_c1 (x:Nat) (hx:x≤1114111) (w:World):Calls Tryz.prog 57 #[.int .i32 (x:Int)] w (Rets (.bool (blankR x)) w):=by
 have e:blankR x=(((x:Int) == 32) || ((x:Int) == 9) || ((x:Int) == 13)):=by
  unfold blankR
  rw[Bool.eq_iff_iff]
  simp
  omega
 rw[e]
 by_cases h1:x=32
 ·subst h1
  go_enter Tryz.func57,Tryz.ntmps57
  go_wp2_with fail
  go_ret
  exact ⟨rfl,rfl⟩
 ·have b1:((x:Int) == 32)=false:=by rw[beq_eq_false_iff_ne];omega
  by_cases h2:x=9
  ·subst h2
   go_enter Tryz.func57,Tryz.ntmps57
   go_wp2_with fail
   go_ret
   exact ⟨rfl,rfl⟩
  ·have b2:((x:Int) == 9)=false:=by rw[beq_eq_false_iff_ne];omega
   rw[b1,b2]
   have H1:=Lib.hid b1
   have H2:=Lib.hid b2
   by_cases h3:x=13
   ·subst h3
    go_enter Tryz.func57,Tryz.ntmps57
    go_wp2_with fail
    go_ret
    exact ⟨rfl,rfl⟩
   ·have b3:((x:Int) == 13)=false:=by rw[beq_eq_false_iff_ne];omega
    rw[b3]
    go_enter Tryz.func57,Tryz.ntmps57
    go_wp2_with fail
    go_ret
    exact ⟨ret_bool (by first|rfl|rw[b1,b2,b3]),rfl⟩
theorem enter_blank:∀ args w,(callFunc 57 args).run Tryz.prog w=.ok (.enter 57 args) w:=fun _ _=>by kernel_rfl
theorem strings_FieldsFunc (w:World) (s:Txt) (hs:s.length≤4294967296) (ha:∀ c∈s,c.toNat<128) :
 Calls Tryz.prog 56 #[.string ⟨s.toArray⟩,.func (.func 57) #[] #[]] w (Gives (fun v w'=>StrsTy w' v (fieldsB s)∧∃ a c,v=.slice a (fieldsB s).length c) w):=by
 refine (Go.Proofs.Tryz.strings_FieldsFunc_runes 57 #[] enter_blank blankR ⟨s.toArray⟩ w (by show s.toArray.size≤_;simpa using hs) (fun W x hx hb=>(blank_c1 x hx W).mono fun e w' ⟨h1,h2⟩=>⟨h1,0,h2.symm⟩)).mono ?_
 rintro e w' ⟨A,rfl,hA,ho,hb⟩
 rw[goFields_flds s ha]at ho ⊢
 simp only[List.length_map]at ho ⊢
 refine ⟨_,rfl,⟨⟨_,_,rfl,Nat.le_refl _,fun i x hx=>⟨A,0,rfl,?_⟩⟩,_,_,rfl⟩,hb⟩
 obtain ⟨h1,⟨h2,_⟩|⟨g,cap,cur,h3,h4,h5,h6,h7,h8,h9⟩⟩:=ho
 ·cases h2
 ·injection h3 with h3 _ h10
  injection h3 with h3
  injection h3 with h3
  subst h3
  refine ⟨⟨cur,_,h5⟩,?_⟩
  have hi:=(List.getElem?_eq_some_iff.1 hx).1
  have hc:=congrArg (fun l=>l[i]?) h9
  simp only[List.getElem?_take,List.getElem?_map,hx,Option.map_some,Nat.mul_one]at hc
  rw[if_pos hi]at hc
  show w'.cell? ⟨A,0+i*1,none⟩=_
  simp only[World.cell?,h5]
  rw[Nat.zero_add,Nat.mul_one]
  simpa using hc
end Go.Proofs.YtbdfhnelmojbpaaGreatDoor
end
section
namespace Vic
open Go Go.RowKit
def BytesAt (w:World) (b:Nat) (l:Txt):Prop:=∀ (i:Nat) (x:UInt8),l[i]?=some x→w.cell? ⟨b,i,none⟩=some (.int .u8 (x.toNat:Int))
def anyIdx {α:Type}(p:α→Bool) (l:List α):Int:=match l.findIdx? p with|some i=>(i:Nat)|none=>-1
theorem anyIdx_hit {α:Type}{p:α→Bool}{l:List α}{k:Nat}{x:α}(h:l[k]?=some x) (hp:p x=true) (hn:∀ (j:Nat) (y:α),j<k→l[j]?=some y→p y=false):anyIdx p l=(k:Nat):=by
 unfold anyIdx
 have:l.findIdx? p=some k:=by
  obtain ⟨hk,hx⟩:=List.getElem?_eq_some_iff.1 h
  rw[List.findIdx?_eq_some_iff_getElem]
  refine ⟨hk,by rw[hx];exact hp,fun j hj=>?_⟩
  have:=hn j l[j] hj (by simp)
  simp[this]
 rw[this]
theorem anyIdx_miss {α:Type}{p:α→Bool}{l:List α}(hn:∀ (j:Nat) (y:α),l[j]?=some y→p y=false):anyIdx p l=-1:=by
 unfold anyIdx
 have:l.findIdx? p=none:=by
  rw[List.findIdx?_eq_none_iff]
  intro x hx
  obtain ⟨j,hj⟩:=List.getElem?_of_mem hx
  exact hn j x hj
 rw[this]
theorem anyIdx_any {α:Type}(p:α→Bool) (l:List α):decide (0≤anyIdx p l)=l.any p:=by
 unfold anyIdx
 cases h:l.findIdx? p with
 | none=>
   rw[List.findIdx?_eq_none_iff]at h
   have:l.any p=false:=List.any_eq_false.2 fun x hx=>by simpa using h x hx
   rw[this];rfl
 | some i=>
   obtain ⟨hi,hp,_⟩:=List.findIdx?_eq_some_iff_getElem.1 h
   have:l.any p=true:=List.any_eq_true.2 ⟨_,List.getElem_mem hi,hp⟩
   rw[this]
   simp
end Vic
namespace Go.Proofs.YtbdfhnelmojbpaaGreatDoor
open Go.Shelf Go.RowKit Vic
set_option maxRecDepth 100000 in
set_option maxHeartbeats 2000000 in
theorem idxf_byte (w:World) (b c:Nat) (l:Txt) (p:UInt8→Bool) (g:Nat) (hl:l.length≤c) (hm:c≤maxLen) (hc:BytesAt w b l) (eg:∀ args w,(callFunc g args).run Tryz.prog w=.ok (.enter g args) w) (H:∀ x wr,Calls Tryz.prog g #[.int .u8 (UInt8.toNat x:Int)] wr (Rets (.bool (p x)) wr)) :
 Calls Tryz.prog 113 #[.slice (some ⟨b,0,none⟩) l.length c,.func (.func g) #[] #[]] w (Rets (.int .i64 (anyIdx p l)) w):=by
 unfold maxLen at hm
 have HC:=Lib.hid hc
 have HH:=Lib.hid H
 have HM:Hid (∀ (j:Nat) (y:UInt8),j<0→l[j]?=some y→p y=false):=fun j y h=>by omega
 clear hc H
 go_enter Tryz.func113,Tryz.ntmps113
 go_wp2_with fail
 go_loop [8] (fun t=>∃ k:Nat,t=.int .i64 k∧k≤l.length∧Hid (∀ (j:Nat) (y:UInt8),j<k→l[j]?=some y→p y=false)) (fun t=>l.length - (intOf t).toNat)
 case atStart=>exact ⟨0,rfl,Nat.zero_le _,HM⟩
 case round=>
  obtain ⟨k,rfl,hk,hz⟩:=hrel
  by_cases hlt:k<l.length
  ·obtain ⟨x,hx⟩:∃ x,l[k]?=some x:=⟨l[k],by simp[hlt]⟩
   have hcell:=HC.out k x hx
   have CC:=Lib.hid (HH.out x)
   have HX:=Lib.hid hx
   clear hx
   by_cases hp:p x=true
   ·rw[hp]at CC
    have HP:=Lib.hid hp
    clear hp
    go_wp2_with fail
    refine (CC.out _).mono ?_
    rintro e w1 ⟨rfl,rfl⟩
    go_wp2_with fail
    go_ret
    exact ⟨ret_int (anyIdx_hit HX.out HP.out hz.out).symm,rfl⟩
   ·have hp':p x=false:=by simpa using hp
    rw[hp']at CC
    have hz2:Hid (∀ (j:Nat) (y:UInt8),j<k+1→l[j]?=some y→p y=false):=fun j y hj hy=>by
     rcases Nat.lt_or_eq_of_le (Nat.le_of_lt_succ hj)with h1|h1
     ·exact hz.out j y h1 hy
     ·subst h1
      rw[HX.out]at hy
      cases hy
      exact hp'
    clear hp hp'
    go_wp2_with fail
    refine (CC.out _).mono ?_
    rintro e w1 ⟨rfl,rfl⟩
    go_wp2_with fail
    go_round
    case rel=>exact ⟨k+1,rfl,by omega,hz2⟩
    case measure=>simp[intOf];omega
  ·obtain rfl:k=l.length:=by omega
   have hm2:Hid (anyIdx p l=-1):=anyIdx_miss fun j y hy=>hz.out j y (List.getElem?_eq_some_iff.1 hy).1 hy
   go_wp2_with fail
   go_ret
   exact ⟨ret_int hm2.out.symm,rfl⟩
theorem conf_byte (w:World) (b c:Nat) (l:Txt) (p:UInt8→Bool) (g:Nat) (hl:l.length≤c) (hm:c≤maxLen) (hc:BytesAt w b l) (eg:∀ args w,(callFunc g args).run Tryz.prog w=.ok (.enter g args) w) (H:∀ x wr,Calls Tryz.prog g #[.int .u8 (UInt8.toNat x:Int)] wr (Rets (.bool (p x)) wr)) :
 Calls Tryz.prog 46 #[.slice (some ⟨b,0,none⟩) l.length c,.func (.func g) #[] #[]] w (Rets (.bool (l.any p)) w):=by
 have CI:=Lib.hid (idxf_byte w b c l p g hl hm hc eg H)
 rw[← anyIdx_any]
 generalize anyIdx p l=i at *
 clear hc H eg
 go_enter Tryz.func46,Tryz.ntmps46
 go_wp2_with fail
 refine CI.out.mono ?_
 rintro e w1 ⟨rfl,rfl⟩
 go_wp2_with fail
 go_ret
 exact ⟨rfl,rfl⟩
theorem name_c1 (x:UInt8) (w:World):Calls Tryz.prog 47 #[.int .u8 (UInt8.toNat x:Int)] w (Rets (.bool (badC x)) w):=by
 have hx:=x.toNat_lt
 have e:badC x=(decide ((x.toNat:Int)≤32) || decide (126<(x.toNat:Int))):=by
  unfold badC
  rw[Bool.eq_iff_iff]
  simp[UInt8.le_iff_toNat_le,UInt8.lt_iff_toNat_lt]
  omega
 rw[e]
 generalize x.toNat=n at *
 by_cases h1:n≤32
 ·go_enter Tryz.func47,Tryz.ntmps47
  go_wp2_with fail
  go_ret
  exact ⟨ret_bool (by first|(simp;done)|(simp;omega)),rfl⟩
 ·by_cases h2:126<n
  ·go_enter Tryz.func47,Tryz.ntmps47
   go_wp2_with fail
   go_ret
   exact ⟨ret_bool (by first|(simp;done)|(simp;omega)),rfl⟩
  ·go_enter Tryz.func47,Tryz.ntmps47
   go_wp2_with fail
   go_ret
   exact ⟨ret_bool (by first|(simp;done)|(simp;omega)),rfl⟩
theorem look_c1 (x:UInt8) (w:World):Calls Tryz.prog 131 #[.int .u8 (UInt8.toNat x:Int)] w (Rets (.bool (badL x)) w):=by
 have hx:=x.toNat_lt
 have e:badL x=(decide (126<(x.toNat:Int)) || (decide ((x.toNat:Int)<32) && !decide ((x.toNat:Int)=9))):=by
  unfold badL
  rw[Bool.eq_iff_iff]
  simp[UInt8.lt_iff_toNat_lt,← UInt8.toNat_inj]
  omega
 rw[e]
 generalize x.toNat=n at *
 by_cases h1:126<n
 ·go_enter Tryz.func131,Tryz.ntmps131
  go_wp2_with fail
  go_ret
  exact ⟨ret_bool (by first|(simp;done)|(simp;omega)),rfl⟩
 ·by_cases h2:n<32
  ·by_cases h3:n=9
   ·subst h3
    go_enter Tryz.func131,Tryz.ntmps131
    go_wp2_with fail
    go_ret
    exact ⟨rfl,rfl⟩
   ·have h4:((n:Int) == 9)=false:=by rw[beq_eq_false_iff_ne];omega
    go_enter Tryz.func131,Tryz.ntmps131
    go_wp2_with fail
    go_ret
    have h5:((n:Int) != 9)=true:=by rw[bne,h4];rfl
    exact ⟨ret_bool (by rw[h5,decide_eq_true (show (n:Int)<32 by omega),decide_eq_false (show ¬ (n:Int)=9 by omega)];simp),rfl⟩
  ·go_enter Tryz.func131,Tryz.ntmps131
   go_wp2_with fail
   go_ret
   exact ⟨ret_bool (by first|(simp;done)|(simp;omega)),rfl⟩
theorem bytes_of (w:World) (s:Txt) (hs:s.length≤140737488355328):∃ c w1,(convert 9 115 (.string ⟨s.toArray⟩)).run Tryz.prog w=.ok (.slice (some ⟨w.heap.size,0,none⟩) s.length c) w1∧s.length≤c∧c≤maxLen∧BytesAt w1 w.heap.size s∧Below w.heap.size w w1:=by
 have hsz:(⟨s.toArray⟩:ByteArray).size=s.length:=by show s.toArray.size=_;simp
 have h:=Lib.run_convert_string_bytes (P:=Tryz.prog) w 9 115 5 ⟨s.toArray⟩ (u:=.string) (by kernel_rfl) (by kernel_rfl) (by kernel_rfl)
 rw[hsz]at h
 refine ⟨_,_,h,grownCap_ge _ _ _ _,grownCap_le_maxLen _ _ _ _ (by unfold maxLen;omega),fun i x hx=>?_,Lib.bytesWorld_below _ _ _⟩
 have hi:=(List.getElem?_eq_some_iff.1 hx).1
 rw[Lib.bytesWorld_cell w _ ⟨s.toArray⟩ i (by rw[hsz];exact hi)]
 simp[List.getD,hx]
theorem enter_name:∀ args w,(callFunc 47 args).run Tryz.prog w=.ok (.enter 47 args) w:=fun _ _=>by kernel_rfl
theorem enter_look:∀ args w,(callFunc 131 args).run Tryz.prog w=.ok (.enter 131 args) w:=fun _ _=>by kernel_rfl
set_option maxRecDepth 100000 in
theorem words_Name (w:World) (s:Txt) (hs:s.length≤140737488355328):Calls Tryz.prog 14 #[.string ⟨s.toArray⟩] w (Keeps (.bool (nameB s)) w):=by
 obtain ⟨c,w1,hcv,h1,h2,h3,hb⟩:=bytes_of w s hs
 have CF:=Lib.hid (conf_byte w1 w.heap.size c s badC 47 h1 h2 h3 enter_name fun x wr=>name_c1 x wr)
 have hn:nameB s=(!s.any badC && decide (1≤s.length) && decide (s.length≤20)):=rfl
 rw[hn]
 have hsz:(⟨s.toArray⟩:ByteArray).size=s.length:=by show s.toArray.size=_;simp
 have HZ:=Lib.hid hsz
 generalize s.any badC=bad at *
 clear hn h1 h2 h3 hsz hs
 go_enter Tryz.func14,Tryz.ntmps14
 go_wp2_with fail
 refine CF.out.mono ?_
 rintro e w2 ⟨rfl,rfl⟩
 cases bad
 ·by_cases h4:1≤s.length
  ·by_cases h5:s.length≤20
   ·go_wp2_with fail
    go_ret
    exact ⟨ret_bool (by simp[h4,h5];try omega),hb⟩
   ·go_wp2_with fail
    go_ret
    exact ⟨ret_bool (by simp[h4,h5];try omega),hb⟩
  ·go_wp2_with fail
   go_ret
   exact ⟨ret_bool (by simp[h4];try omega),hb⟩
 ·go_wp2_with fail
  go_ret
  exact ⟨rfl,hb⟩
set_option maxRecDepth 100000 in
theorem words_look (w:World) (s:Txt) (hs:s.length≤140737488355328):Calls Tryz.prog 55 #[.string ⟨s.toArray⟩] w (Keeps (.int .i64 (lookB s)) w):=by
 have hsz:(⟨s.toArray⟩:ByteArray).size=s.length:=by show s.toArray.size=_;simp
 have CT:=Lib.hid (strings_TrimSuffix w s [13] (by omega))
 have htl:(trimCr s).length≤s.length:=by
  unfold trimCr Lib.trimSuffix
  split
  ·simp
  ·exact Nat.le_refl _
 obtain ⟨c,w1,hcv,h1,h2,h3,hb⟩:=bytes_of w (trimCr s) (by omega)
 have CF:=Lib.hid (conf_byte w1 w.heap.size c (trimCr s) badL 131 h1 h2 h3 enter_look fun x wr=>look_c1 x wr)
 have HL:Hid (lookB s=if 200<s.length then 6 else if (trimCr s).any badL then 1 else 0):=rfl
 rw[show Lib.trimSuffix s [13]=trimCr s from rfl]at CT
 generalize (trimCr s).any badL=bad at *
 generalize lookB s=r at *
 generalize trimCr s=t at *
 clear h1 h2 h3 hs htl
 by_cases h4:200<s.length
 ·have HR:Hid (r=6):=by rw[HL.out,if_pos h4];exact rfl
  clear HL hsz
  go_enter Tryz.func55,Tryz.ntmps55
  go_wp2_with fail
  go_ret
  exact ⟨ret_int HR.out.symm,Below.refl _ _⟩
 ·have HR:Hid (r=if bad=true then 1 else 0):=by rw[HL.out,if_neg h4];exact rfl
  clear HL
  go_enter Tryz.func55,Tryz.ntmps55
  go_wp2_with fail
  refine CT.out.mono ?_
  rintro e w2 ⟨rfl,rfl⟩
  go_wp2_with fail
  refine CF.out.mono ?_
  rintro e w2 ⟨rfl,rfl⟩
  cases bad
  ·go_wp2_with fail
   go_ret
   exact ⟨ret_int (by rw[HR.out];rfl),hb⟩
  ·go_wp2_with fail
   go_ret
   exact ⟨ret_int (by rw[HR.out];rfl),hb⟩
end Go.Proofs.YtbdfhnelmojbpaaGreatDoor
end
section
namespace Vic
open Go Go.RowKit
def CoefR (w:World) (g o:Nat) (x:CoefM):Prop:=w.cell? ⟨g,o,none⟩=some (.int .i64 x.1)∧w.cell? ⟨g,o+1,none⟩=some (.string ⟨x.2.toArray⟩)
theorem CoefR.firm:Firm CoefR:=fun _ _ _ _ _ h hb=>⟨cell_keep h.1 hb,cell_keep h.2 hb⟩
abbrev CsIn (w:World) (v:Value) (l:List CoefM):Prop:=SlIn CoefR 2 w v l
def ColR (w:World) (g o:Nat) (x:ColM):Prop:=
 w.cell? ⟨g,o,none⟩=some (.string ⟨x.name.toArray⟩)∧w.cell? ⟨g,o+1,none⟩=some (.string ⟨x.low.toArray⟩)∧w.cell? ⟨g,o+2,none⟩=some (.string ⟨x.up.toArray⟩)∧w.cell? ⟨g,o+3,none⟩=some (.string ⟨x.cost.toArray⟩)∧w.cell? ⟨g,o+4,none⟩=some (.bool x.int)
theorem ColR.firm:Firm ColR:=fun _ _ _ _ _ h hb=>⟨cell_keep h.1 hb,cell_keep h.2.1 hb,cell_keep h.2.2.1 hb,cell_keep h.2.2.2.1 hb,cell_keep h.2.2.2.2 hb⟩
abbrev ColsIn (w:World) (v:Value) (l:List ColM):Prop:=SlIn ColR 5 w v l
def RowR (w:World) (g o:Nat) (x:RowM):Prop:=
 ∃ cv,w.cell? ⟨g,o,none⟩=some (.string ⟨x.name.toArray⟩)∧w.cell? ⟨g,o+1,none⟩=some (.int .i64 x.kind)∧w.cell? ⟨g,o+2,none⟩=some cv∧w.cell? ⟨g,o+3,none⟩=some (.string ⟨x.rhs.toArray⟩)∧w.cell? ⟨g,o+4,none⟩=some (.string ⟨x.range.toArray⟩)∧CsIn w cv x.coef
theorem RowR.firm:Firm RowR:=fun _ _ _ _ _ ⟨cv,h1,h2,h3,h4,h5,h6⟩ hb=>⟨cv,cell_keep h1 hb,cell_keep h2 hb,cell_keep h3 hb,cell_keep h4 hb,cell_keep h5 hb,h6.keep CoefR.firm hb⟩
abbrev RowsIn (w:World) (v:Value) (l:List RowM):Prop:=SlIn RowR 5 w v l
def CoreIn (w:World) (v:Value) (c:CoreM):Prop:=∃ rv cv,v=.agg #[.string ⟨c.name.toArray⟩,.string ⟨c.obj.toArray⟩,rv,cv]∧RowsIn w rv c.rows∧ColsIn w cv c.cols
theorem CoreIn.keep {w w':World}{v:Value}{c:CoreM}(h:CoreIn w v c) (hb:Below w.heap.size w w'):CoreIn w' v c:=by
 obtain ⟨rv,cv,h1,h2,h3⟩:=h
 exact ⟨rv,cv,h1,h2.keep RowR.firm hb,h3.keep ColR.firm hb⟩
def PerR (w:World) (g o:Nat) (x:PerM):Prop:=w.cell? ⟨g,o,none⟩=some (.string ⟨x.1.toArray⟩)∧w.cell? ⟨g,o+1,none⟩=some (.string ⟨x.2.1.toArray⟩)∧w.cell? ⟨g,o+2,none⟩=some (.string ⟨x.2.2.toArray⟩)
theorem PerR.firm:Firm PerR:=fun _ _ _ _ _ h hb=>⟨cell_keep h.1 hb,cell_keep h.2.1 hb,cell_keep h.2.2 hb⟩
abbrev PersIn (w:World) (v:Value) (l:List PerM):Prop:=SlIn PerR 3 w v l
end Vic
end
