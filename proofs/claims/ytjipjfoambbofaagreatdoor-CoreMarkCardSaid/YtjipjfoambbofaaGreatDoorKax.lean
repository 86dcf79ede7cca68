/- Package lit: the literal of begun. -/
import Derived.Test.YtjipjfoambbofaaGreatDoorKaw
import Derived.Shelf.Strconv.AtoiAll
import Derived.Test.YtjipjfoambbofaaGreatDoorKap
import Derived.Lib.Case
import Derived.Test.YtjipjfoambbofaaGreatDoorKat
import Derived.Test.YtjipjfoambbofaaGreatDoorShelf
import Derived.Lib.ConvBytes
import Derived.Deep.QuietTactic
import Derived.BigQuiet
import Derived.Deep.DeepCutAuto
import Derived.Deep.CutBlock
import Derived.Deep.RegionHeld3
set_option linter.unusedVariables false
set_option linter.unusedSimpArgs false
section
namespace Go.Proofs.YtjipjfoambbofaaGreatDoor
open Go.RowKit Vic
theorem lit_digits (w:World) (l:List UInt8) (hl:l.length≤1000000) :
 Calls Tryz.prog 198 #[.string ⟨l.toArray⟩] w (Keeps (.bool (decide (∀ c∈l,isDig c=true))) w):=by
 have CT:=Lib.hid (strings_Trim_digs w l (by omega))
 have HT:=trim_digs l
 obtain ⟨t,ht⟩:∃ t,t=Lib.trimS l tenDigs:=⟨_,rfl⟩
 rw[← ht]at CT HT
 by_cases h:∀ c∈l,isDig c=true
 ·obtain rfl:=HT.2 h
  rw[decide_eq_true h]
  clear h HT ht
  go_enter Tryz.func198,Tryz.ntmps198
  go_wp2_with fail
  refine CT.out.mono ?_
  rintro e w1 ⟨rfl,hb1⟩
  go_wp2_with fail
  go_ret
  exact ⟨rfl,hb1⟩
 ·rw[decide_eq_false h]
  have hne:t≠[]:=fun e=>h (HT.1 e)
  obtain ⟨b0,t0,rfl⟩:∃ b0 t0,t=b0 :: t0:=by
   rcases t with _|⟨b0,t0⟩
   ·exact absurd rfl hne
   ·exact ⟨b0,t0,rfl⟩
  clear h HT ht hne
  go_enter Tryz.func198,Tryz.ntmps198
  go_wp2_with fail
  refine CT.out.mono ?_
  rintro e w1 ⟨rfl,hb1⟩
  go_wp2_with fail
  go_ret
  exact ⟨rfl,hb1⟩
theorem tens_good (k:Nat) (hk:k≤1000):GoodNat ([49] ++ List.replicate k 48):=by
 refine ⟨⟨by simp,fun c hc=>?_,?_⟩,by simp;omega⟩
 ·rcases List.mem_append.1 hc with h|h
  ·simp at h;subst h;decide
  ·have:=List.eq_of_mem_replicate h
   subst this;decide
 ·rcases Nat.eq_zero_or_pos k with h|h
  ·subst h;left;rfl
  ·right;simp
theorem tens_num (k:Nat):numOf 0 ([49] ++ List.replicate k 48)=10 ^ k:=by
 induction k with
 | zero=>rfl
 | succ k ih=>
   rw[List.replicate_succ',← List.append_assoc,numOf_append,ih,Nat.pow_succ]
   rfl
set_option maxRecDepth 100000 in
theorem lit_tens (w:World) (k:Nat) (hk:k≤1000) :
 Calls Tryz.prog 201 #[.int .i64 k] w (Gives (fun x w'=>NatPtr w' x (10 ^ k)) w):=by
 have CR:Hid (Calls Tryz.prog 214 #[.string ⟨#[48]⟩,.int .i64 k] w (Keeps (.string ⟨(List.replicate k (48:UInt8)).toArray⟩) w)):=by
  have h:=Go.Proofs.Tryz.strings_Repeat ⟨#[48]⟩ k w (by omega) (by show 1*k≤_;omega)
  rw[show Lib.repeatL (⟨#[48]⟩:ByteArray).data.toList k=List.replicate k 48 from rep_one 48 k]at h
  exact h
 have CG:Hid (∀ wr,Calls Tryz.prog 120 #[.string ⟨([49] ++ List.replicate k (48:UInt8)).toArray⟩] wr (GivesOk (fun x w'=>NatPtr w' x (10 ^ k)) wr)):=fun wr=>by
  have:=nat_Get_yes wr _ (tens_good k hk)
  rwa [tens_num]at this
 generalize 10 ^ k=T at *
 obtain ⟨z,hz⟩:∃ z,z=List.replicate k (48:UInt8):=⟨_,rfl⟩
 have hzl:z.length≤1000:=by rw[hz];simpa using hk
 rw[← hz]at CR CG
 clear hz
 have ea:(⟨#[49]⟩ ++ ⟨z.toArray⟩:ByteArray)=⟨([49] ++ z).toArray⟩:=bytes_app [49] z
 go_enter Tryz.func201,Tryz.ntmps201
 go_wp2_with fail
 refine CR.out.mono ?_
 rintro e w1 ⟨rfl,hb1⟩
 go_wp2_with fail
 refine (CG.out _).mono ?_
 rintro e w2 ⟨x2,rfl,hx2,hb2⟩
 go_wp2_with fail
 go_ret
 exact ⟨x2,rfl,hx2,below_seq hb1 hb2⟩
theorem strings_TrimPrefix (w:World) (s p:List UInt8) :
 Calls Tryz.prog 195 #[.string ⟨s.toArray⟩,.string ⟨p.toArray⟩] w (Rets (.string ⟨(Lib.trimPrefix s p).toArray⟩) w):=by
 refine (Go.Proofs.Tryz.strings_TrimPrefix ⟨s.toArray⟩ ⟨p.toArray⟩ w).mono ?_
 rintro e w' ⟨rfl,rfl⟩
 exact ⟨rfl,rfl⟩
theorem strings_HasPrefix (w:World) (s p:List UInt8) :
 Calls Tryz.prog 194 #[.string ⟨s.toArray⟩,.string ⟨p.toArray⟩] w (Rets (.bool (Lib.hasPrefix s p)) w):=by
 refine (Go.Proofs.Tryz.strings_HasPrefix ⟨s.toArray⟩ ⟨p.toArray⟩ w).mono ?_
 rintro e w' ⟨rfl,rfl⟩
 exact ⟨rfl,rfl⟩
end Go.Proofs.YtjipjfoambbofaaGreatDoor
end
section
namespace Vic
open Go
def isE (c:UInt8):Bool:=c == 101 || c == 69
def expD (neg:Bool) (t:List UInt8):Option Int:=if t≠[]∧t.length≤3∧(∀ c∈t,isDig c=true)∧numOf 0 t≤100 then some (sgn neg (numOf 0 t))else none
def expo:List UInt8→Option Int
 | []=>none
 | c :: r=>if c=43 then expD false r else if c=45 then expD true r else expD false (c :: r)
def mantOk (a b:List UInt8):Prop:=a ++ b≠[]∧(∀ c∈a,isDig c=true)∧(∀ c∈b,isDig c=true)
instance (a b:List UInt8):Decidable (mantOk a b):=inferInstanceAs (Decidable (_∧_∧_))
def mant (m:List UInt8) (e:Int):Option (Nat × Int):=
 if mantOk (Lib.cut m [46]).1 (Lib.cut m [46]).2.1 then some (numOf 0 ((Lib.cut m [46]).1 ++ (Lib.cut m [46]).2.1),e - (Lib.cut m [46]).2.1.length)else none
def litBody (t:List UInt8):Option (Nat × Int):=
 if Lib.indexAny t [101,69]<0 then mant t 0 else (expo (t.drop ((Lib.indexAny t [101,69]).toNat+1))).bind (mant (t.take (Lib.indexAny t [101,69]).toNat))
theorem indexAny_spec (t:List UInt8):(Lib.indexAny t [101,69]=-1∧∀ c∈t,isE c=false)∨(∃ m c x,t=m ++ c :: x∧isE c=true∧(∀ b∈m,isE b=false)∧Lib.indexAny t [101,69]=(m.length:Int)):=by
 induction t with
 | nil=>left;exact ⟨rfl,fun c h=>by cases h⟩
 | cons c r ih=>
   by_cases hc:isE c=true
   ·right
    refine ⟨[],c,r,rfl,hc,fun b h=>(by cases h),?_⟩
    have h1:([101,69]:List UInt8).contains c=true:=by
     unfold isE at hc
     rcases Bool.or_eq_true _ _▸hc with h|h
     ·rw[beq_iff_eq.1 h];decide
     ·rw[beq_iff_eq.1 h];decide
    rw[Lib.indexAny,h1];rfl
   ·have hc':isE c=false:=by simpa using hc
    have h1:([101,69]:List UInt8).contains c=false:=by
     unfold isE at hc'
     have:=Bool.or_eq_false_iff.1 hc'
     simp[beq_eq_false_iff_ne.1 this.1,beq_eq_false_iff_ne.1 this.2]
    rcases ih with ⟨h2,h3⟩|⟨m,d,x,rfl,hd,hm,h2⟩
    ·left
     refine ⟨by rw[Lib.indexAny,h1,h2];rfl,fun b hb=>?_⟩
     rcases List.mem_cons.1 hb with rfl|hb
     ·exact hc'
     ·exact h3 b hb
    ·right
     refine ⟨c :: m,d,x,rfl,hd,fun b hb=>?_,?_⟩
     ·rcases List.mem_cons.1 hb with rfl|hb
      ·exact hc'
      ·exact hm b hb
     ·have h4:(((m.length:Nat):Int) == -1)=false:=by rw[beq_eq_false_iff_ne];omega
      rw[Lib.indexAny,h1,h2,h4]
      simp
theorem trimLeft_num (l:List UInt8):numOf 0 (Lib.trimLeftB l 48)=numOf 0 l:=by
 induction l with
 | nil=>rfl
 | cons c r ih=>
   by_cases h:c=48
   ·subst h
    have e:Lib.trimLeftB (48 :: r) 48=Lib.trimLeftB r 48:=by simp[Lib.trimLeftB]
    rw[e,ih,numOf_cons];rfl
   ·have e:Lib.trimLeftB (c :: r) 48=c :: r:=by simp[Lib.trimLeftB,h]
    rw[e]
theorem trimLeft_can (l:List UInt8) (h:∀ c∈l,isDig c=true):Lib.trimLeftB l 48 = []∨(Canon (Lib.trimLeftB l 48)∧(Lib.trimLeftB l 48).length≤l.length):=by
 induction l with
 | nil=>left;rfl
 | cons c r ih=>
   by_cases hc:c=48
   ·subst hc
    have e:Lib.trimLeftB (48 :: r) 48=Lib.trimLeftB r 48:=by simp[Lib.trimLeftB]
    rw[e]
    rcases ih (fun d hd=>h d (List.mem_cons_of_mem _ hd))with h1|⟨h1,h2⟩
    ·exact .inl h1
    ·exact .inr ⟨h1,by simp;omega⟩
   ·have e:Lib.trimLeftB (c :: r) 48=c :: r:=by simp[Lib.trimLeftB,hc]
    rw[e]
    exact .inr ⟨⟨by simp,h,.inr (by simpa using hc)⟩,Nat.le_refl _⟩
def neg0 (s:List UInt8):Bool:=s.head? == some 45
def strip:List UInt8→List UInt8
 | []=>[]
 | c :: r=>if c=45∨c=43 then r else c :: r
theorem strip_len (s:List UInt8):(strip s).length≤s.length:=by
 rcases s with _|⟨c,r⟩
 ·exact Nat.le_refl _
 ·rw[show strip (c :: r)=(if c=45∨c=43 then r else c :: r)from rfl]
  split
  ·simp
  ·exact Nat.le_refl _
theorem strip_neg (s:List UInt8):Lib.hasPrefix s [45]=neg0 s∧Lib.trimPrefix s [45]=(if neg0 s then strip s else s)∧(neg0 s=false→Lib.trimPrefix s [43]=strip s):=by
 rcases s with _|⟨c,r⟩
 ·exact ⟨rfl,rfl,fun _=>rfl⟩
 ·by_cases h45:c=45
  ·subst h45
   exact ⟨(trim_neg r).2,by rw[(trim_neg r).1];simp[neg0,strip],fun h=>by simp[neg0]at h⟩
  ·refine ⟨by rw[(trim_pos r h45).2];simp[neg0,h45],by rw[(trim_pos r h45).1];simp[neg0,h45],fun _=>?_⟩
   by_cases h43:c=43
   ·subst h43;simp[Lib.trimPrefix,Lib.hasPrefix,pre_one,strip]
   ·simp[Lib.trimPrefix,Lib.hasPrefix,pre_one,Ne.symm h43,strip,h45,h43]
theorem expD_bound {ng:Bool}{t:List UInt8}{v:Int}(h:expD ng t=some v) : -100≤v∧v≤100:=by
 unfold expD at h
 split at h
 case isFalse=>cases h
 case isTrue hk=>
  have hv:sgn ng (numOf 0 t)=v:=Option.some.inj h
  rw[← hv]
  have:=hk.2.2.2
  unfold sgn;split<;>omega
theorem expo_bound {x:List UInt8}{v:Int}(h:expo x=some v) : -100≤v∧v≤100:=by
 rcases x with _|⟨c,r⟩
 ·cases h
 ·have h:(if c=43 then expD false r else if c=45 then expD true r else expD false (c :: r))=some v:=h
  split at h
  ·exact expD_bound h
  ·split at h
   ·exact expD_bound h
   ·exact expD_bound h
end Vic
end
section
namespace Vic
open Go
abbrev CoefM:=Int × Txt
structure RowM where
 name:Txt
 kind:Int
 coef:List CoefM
 rhs:Txt
 range:Txt
structure ColM where
 name:Txt
 low:Txt
 up:Txt
 cost:Txt
 int:Bool
structure CoreM where
 name:Txt
 obj:Txt
 rows:List RowM
 cols:List ColM
open Classical in
noncomputable def litOf (s:Txt):Option Rat:=if 40<s.length then none else if FracGood s then some (fracOf s)else (litBody (strip s)).map fun p=>qv (neg0 s) p.1 p.2
def idxT (l:List Txt) (s:Txt):Int:=match l.findIdx? (fun x=>x == s)with|some i=>(i:Nat)|none=>-1
def headsM:List Txt:=[[],[78,65,77,69],[82,79,87,83],[67,79,76,85,77,78,83],[82,72,83],[82,65,78,71,69,83],[66,79,85,78,68,83],[69,78,68,65,84,65]]
def kindsM:List Txt:=[[78],[76],[69],[71]]
def markerM:Txt:=[39,77,65,82,75,69,82,39]
def intorgM:Txt:=[39,73,78,84,79,82,71,39]
def intendM:Txt:=[39,73,78,84,69,78,68,39]
def rhsM:Txt:=[82,72,83]
structure CSt where
 c:CoreM
 at_:Int
 rows:List (Txt × Int)
 cols:List (Txt × Int)
 seen:List Txt
 integer:Bool
 l:List Txt
 e:Int
def atT (l:List (Txt × Int)) (s:Txt):Option Int:=(l.find? fun p=>p.1 == s).map (·.2)
def CSt.fails (st:CSt) (b:Bool) (e:Int):CSt:=if b && st.e == 0 then { st with e:=e }else st
def CSt.word (st:CSt):Txt × CSt:=
 let st:=st.fails st.l.isEmpty 1
 if st.e=0 then (st.l.headD [],{ st with l:=st.l.tail })else ([],st)
noncomputable def CSt.number (st:CSt):Option Rat × CSt:=
 let s:=st.word
 (litOf s.1,s.2.fails (litOf s.1).isNone 1)
def CSt.head (st:CSt):CSt:=
 let s:=st.word
 let next:=idxT headsM s.1
 let late:=s.2.at_ == 4 || s.2.at_ == 5
 let ok:=next == s.2.at_+1 || next == 6 && late || next == 7 && (late || s.2.at_ == 6)
 let st:=s.2.fails (!ok || next == 0) 5
 let st:=if next=1∧st.e=0 then
     let s:=st.word
     let st:={ s.2 with c:={ s.2.c with name:=s.1 } }
     let st:=st.fails (!st.l.isEmpty) 1
     st.fails (!nameB s.1) 4
  else st
 let st:=st.fails (!st.l.isEmpty) 1
 let st:=st.fails (next == 3 && st.c.obj.isEmpty) 5
 { st with at_:=next,seen:=[] }
def CSt.many (st:CSt) (ns:List Int):CSt:=st.fails (!ns.contains (st.l.length:Int)) 1
def CSt.rowEnd (st:CSt) (kind:Int) (s:Txt):CSt:=
 if st.e≠0 then st
 else if kind=0 then { st with c:={ st.c with obj:=s },rows:=(s,-1) :: st.rows }
 else { st with rows:=(s,(st.c.rows.length:Nat)) :: st.rows,c:={ st.c with rows:=st.c.rows ++ [(⟨s,kind,[],[48],[]⟩:RowM)] } }
def CSt.row (st:CSt):CSt:=
 let st:=st.many [2]
 let k:=st.word
 let kind:=idxT kindsM k.1
 let st:=k.2.fails (decide (kind<0)) 1
 let st:=st.fails (kind == 0 && !st.c.obj.isEmpty) 7
 let s:=st.word
 let st:=s.2.fails (!nameB s.1 || s.1 == markerM || (atT s.2.rows s.1).isSome) 4
 let st:=st.fails (decide (0<kind) && decide ((40:Int)≤(st.c.rows.length:Nat))) 6
 st.rowEnd kind s.1
def CSt.marks (st:CSt):CSt:=
 let st:={ st with l:=st.l.drop 2 }
 let s:=st.word
 let st:=s.2.fails (s.1 != intorgM && s.1 != intendM) 1
 let st:=st.fails ((s.1 == intorgM) == st.integer) 5
 { st with integer:=s.1 == intorgM }
def setRowM (c:CoreM) (i:Nat) (f:RowM→RowM):CoreM:={ c with rows:=c.rows.modify i f }
def setColM (c:CoreM) (i:Nat) (f:ColM→ColM):CoreM:={ c with cols:=c.cols.modify i f }
noncomputable def CSt.put (st:CSt) (row:Int) (q:Rat):CSt:=
 if st.at_=3 then
  if row<0 then { st with c:=setColM st.c (st.c.cols.length - 1) fun x=>{ x with cost:=fracText q } }
  else if q=0 then st
  else { st with c:=setRowM st.c row.toNat fun x=>{ x with coef:=x.coef ++ [(((st.c.cols.length:Int) - 1,fracText q):CoefM)] } }
 else if st.at_=4 then { st with c:=setRowM st.c row.toNat fun x=>{ x with rhs:=fracText q } }
 else { st with c:=setRowM st.c row.toNat fun x=>{ x with range:=fracText q } }
noncomputable def CSt.pair (st:CSt):CSt:=
 let s:=st.word
 let row:=atT s.2.rows s.1
 let st:=s.2.fails (row.isNone || s.2.seen.contains s.1) 4
 let st:=st.fails (decide (row.getD 0<0) && st.at_ != 3) 7
 let q:=st.number
 if q.2.e≠0 then q.2 else ({ q.2 with seen:=s.1 :: q.2.seen }).put (row.getD 0) (q.1.getD 0)
noncomputable def CSt.pairs (st:CSt):CSt:=
 let st:=st.pair
 if st.e=0∧st.l≠[]then st.pair else st
noncomputable def CSt.pairsFrom:Nat→CSt→CSt
 | 0,st=>st.pairs
 | 1,st=>if st.l≠[]then st.pair else st
 | _,st=>st
def CSt.Good (st:CSt):Prop:=(∀ s i,atT st.rows s=some i→-1≤i∧i<st.c.rows.length)∧(∀ s i,atT st.cols s=some i→0≤i∧i<st.c.cols.length)
noncomputable def CSt.column (st:CSt):CSt:=
 let st:=st.many [3,5]
 if st.l.length=3∧st.l[1]?=some markerM then st.marks
 else
  let s:=st.word
  let st:=s.2
  let at_:=atT st.cols s.1
  if at_=some ((st.c.cols.length:Int) - 1)then st.pairs
  else
   let st:=st.fails (at_.isSome || !nameB s.1 || s.1 == rhsM) 4
   let st:=st.fails (decide ((40:Int)≤(st.c.cols.length:Nat))) 6
   if st.e≠0 then st
   else
    let st:={ st with cols:=(s.1,(st.c.cols.length:Nat)) :: st.cols,c:={ st.c with cols:=st.c.cols ++ [(⟨s.1,[48],[],[48],st.integer⟩:ColM)] },seen:=[] }
    st.pairs
noncomputable def CSt.side (st:CSt):CSt:=
 let st:=st.many [3,5]
 let s:=st.word
 (s.2.fails (!nameB s.1) 4).pairs
def infM (s:Txt):Int:=
 let t:=Lib.toLowerA s
 if t = [105,110,102]∨t = [43,105,110,102]∨t = [105,110,102,105,110,105,116,121]∨t = [49,101,51,48]then 1
 else if t = [45,105,110,102]∨t = [45,105,110,102,105,110,105,116,121]∨t = [45,49,101,51,48]then -1 else 0
noncomputable def CSt.bound (st:CSt) (inf:Int):Txt × CSt:=
 let s:=st.word
 if infM s.1≠0∧inf≠0 then ([],s.2.fails (infM s.1 != inf) 1)
 else (fracText ((litOf s.1).getD 0),s.2.fails (litOf s.1).isNone 1)
def longM:List Txt:=[[85,80],[76,79],[70,88],[76,73],[85,73]]
def aloneM:List Txt:=[[70,82],[77,73],[80,76],[66,86]]
def CSt.colSet (st:CSt) (col:Nat) (f:ColM→ColM):CSt:={ st with c:=setColM st.c col f }
noncomputable def CSt.bounds (st:CSt):CSt:=
 let k:=st.l.headD []
 let st:=if k∈longM then st.many [4]else if k∈aloneM then st.many [3]else st.fails true 1
 let kind:=st.word
 let b:=kind.2.word
 let st:=b.2.fails (!nameB b.1) 4
 let cn:=st.word
 let col:=atT cn.2.cols cn.1
 let st:=cn.2.fails col.isNone 4
 let at_:=(col.getD 0).toNat
 if st.e≠0 then st
 else if kind.1 = [85,80]then
  let x:=st.bound 1
  x.2.colSet at_ fun y=>{ y with up:=x.1 }
 else if kind.1 = [76,79]then
  let x:=st.bound (-1)
  x.2.colSet at_ fun y=>{ y with low:=x.1 }
 else if kind.1 = [70,88]then
  let x:=st.bound 0
  x.2.colSet at_ fun y=>{ y with low:=x.1,up:=x.1 }
 else if kind.1 = [76,73]then
  let x:=st.bound 0
  x.2.colSet at_ fun y=>{ y with int:=true,low:=x.1 }
 else if kind.1 = [85,73]then
  let x:=st.bound 0
  x.2.colSet at_ fun y=>{ y with int:=true,up:=x.1 }
 else if kind.1 = [70,82]then st.colSet at_ fun y=>{ y with low:=[],up:=[] }
 else if kind.1 = [77,73]then st.colSet at_ fun y=>{ y with low:=[] }
 else if kind.1 = [80,76]then st.colSet at_ fun y=>{ y with up:=[] }
 else if kind.1 = [66,86]then st.colSet at_ fun y=>{ y with int:=true,low:=[48],up:=[49] }
 else st
noncomputable def CSt.line (st:CSt) (x:LineM):CSt:=
 let st:={ st with l:=x.words }
 if x.head then st.head
 else if st.at_=2 then st.row
 else if st.at_=3 then st.column
 else if st.at_=4∨st.at_=5 then st.side
 else if st.at_=6 then st.bounds
 else st.fails true 5
def noCore:CoreM:=⟨[],[],[],[]⟩
def CSt.zero:CSt:=⟨noCore,0,[],[],[],false,[],0⟩
noncomputable def coreRun:List LineM→CSt→CoreM × Nat × Int
 | [],_=>(noCore,0,5)
 | x :: ls,st=>
   if (st.line x).e≠0 then (noCore,x.no,(st.line x).e)
   else if (st.line x).at_=7 then ((st.line x).c,0,0)
   else coreRun ls (st.line x)
noncomputable def coreGet (t:Txt):CoreM × Nat × Int:=
 let g:=wordsGet t
 if g.2.2≠0 then (noCore,g.2.1,g.2.2)else coreRun g.1 CSt.zero
end Vic
end
section
namespace Vic
open Go
def rowIx (c:CoreM) (s:Txt):Int:=idxT (c.rows.map (·.name)) s
def rowAt (c:CoreM) (s:Txt):Int:=if s=c.obj then 0 else if rowIx c s<0 then rowIx c s else rowIx c s+1
end Vic
end
section
namespace Vic
open Go Go.RowKit
def CoefR (w:World) (g o:Nat) (x:CoefM):Prop:=w.cell? ⟨g,o,none⟩=some (.int .i64 x.1)∧w.cell? ⟨g,o+1,none⟩=some (.string ⟨x.2.toArray⟩)
theorem CoefR.firm:Firm CoefR:=fun _ _ _ _ _ h hb=>⟨cell_keep h.1 hb,cell_keep h.2 hb⟩
abbrev CsIn (w:World) (v:Value) (l:List CoefM):Prop:=SlIn CoefR 2 w v l
def ColR (w:World) (g o:Nat) (x:ColM):Prop:=
 w.cell? ⟨g,o,none⟩=some (.string ⟨x.name.toArray⟩)∧w.cell? ⟨g,o+1,none⟩=some (.string ⟨x.low.toArray⟩)∧w.cell? ⟨g,o+2,none⟩=some (.string ⟨x.up.toArray⟩)∧w.cell? ⟨g,o+3,none⟩=some (.string ⟨x.cost.toArray⟩)∧w.cell? ⟨g,o+4,none⟩=some (.bool x.int)
theorem ColR.firm:Firm ColR:=fun _ _ _ _ _ h hb=>⟨cell_keep h.1 hb,cell_keep h.2.1 hb,cell_keep h.2.2.1 hb,cell_keep h.2.2.2.1 hb,cell_keep h.2.2.2.2 hb⟩
abbrev ColsIn (w:World) (v:Value) (l:List ColM):Prop:=SlIn ColR 5 w v l
def RowR (w:World) (g o:Nat) (x:RowM):Prop:=
 ∃ cv,w.cell? ⟨g,o,none⟩=some (.string ⟨x.name.toArray⟩)∧w.cell? ⟨g,o+1,none⟩=some (.int .i64 x.kind)∧w.cell? ⟨g,o+2,none⟩=some cv∧w.cell? ⟨g,o+3,none⟩=some (.string ⟨x.rhs.toArray⟩)∧w.cell? ⟨g,o+4,none⟩=some (.string ⟨x.range.toArray⟩)∧CsIn w cv x.coef
theorem RowR.firm:Firm RowR:=fun _ _ _ _ _ ⟨cv,h1,h2,h3,h4,h5,h6⟩ hb=>⟨cv,cell_keep h1 hb,cell_keep h2 hb,cell_keep h3 hb,cell_keep h4 hb,cell_keep h5 hb,h6.keep CoefR.firm hb⟩
abbrev RowsIn (w:World) (v:Value) (l:List RowM):Prop:=SlIn RowR 5 w v l
def CoreIn (w:World) (v:Value) (c:CoreM):Prop:=∃ rv cv,v=.agg #[.string ⟨c.name.toArray⟩,.string ⟨c.obj.toArray⟩,rv,cv]∧RowsIn w rv c.rows∧ColsIn w cv c.cols
theorem CoreIn.keep {w w':World}{v:Value}{c:CoreM}(h:CoreIn w v c) (hb:Below w.heap.size w w'):CoreIn w' v c:=by
 obtain ⟨rv,cv,h1,h2,h3⟩:=h
 exact ⟨rv,cv,h1,h2.keep RowR.firm hb,h3.keep ColR.firm hb⟩
end Vic
end
section
namespace Vic
open Go Go.RowKit
theorem fl_set {α:Type}{enc:α→List Value}{size:Nat}(he:∀ x,(enc x).length=size):∀ {l:List α}{i:Nat}{x y:α}{k:Nat}{u:Value},l[i]?=some x→k<size→enc y=(enc x).set k u→(l.flatMap enc).set (i*size+k) u=(l.set i y).flatMap enc
 | [],i,x,y,k,u,h,_,_=>by simp at h
 | z :: l,0,x,y,k,u,h,hk,hy=>by
   simp only[List.getElem?_cons_zero,Option.some.injEq]at h
   subst h
   rw[List.flatMap_cons,List.set_cons_zero,List.flatMap_cons,Nat.zero_mul,Nat.zero_add,List.set_append_left _ _ (by rw[he];exact hk),hy]
 | z :: l,i+1,x,y,k,u,h,hk,hy=>by
   have ih:=fl_set he (l:=l) (i:=i) (x:=x) (y:=y) (k:=k) (u:=u) (by simpa using h) hk hy
   rw[List.flatMap_cons,List.set_cons_succ,List.flatMap_cons,← ih,List.set_append_right _ _ (by rw[he,Nat.add_mul];omega),he]
   congr 2
   rw[Nat.add_mul];omega
abbrev RowV:=RowM × Value
def encRow (x:RowV):List Value:=[.string ⟨x.1.name.toArray⟩,.int .i64 x.1.kind,x.2,.string ⟨x.1.rhs.toArray⟩,.string ⟨x.1.range.toArray⟩]
def encCol (x:ColM):List Value:=[.string ⟨x.name.toArray⟩,.string ⟨x.low.toArray⟩,.string ⟨x.up.toArray⟩,.string ⟨x.cost.toArray⟩,.bool x.int]
def encCf (x:CoefM):List Value:=[.int .i64 x.1,.string ⟨x.2.toArray⟩]
theorem encRow_len (x:RowV):(encRow x).length=5:=rfl
theorem encCol_len (x:ColM):(encCol x).length=5:=rfl
theorem encCf_len (x:CoefM):(encCf x).length=2:=rfl
def rvV (rvs:List RowV) (i:Nat):Value:=((rvs[i]?).map (·.2)).getD (.slice none 0 0)
def rvN (rvs:List RowV) (i:Nat):Nat:=((rvs[i]?).map (·.1.coef.length)).getD 0
def rvX (rvs:List RowV) (i:Nat):List Value:=((rvs[i]?).map (fun x=>x.1.coef.flatMap encCf)).getD []
structure RowsOwn (w:World) (B:Nat) (rv:Value) (rvs:List RowV):Prop where
 rows:Own w B 45 5 rv rvs.length (rvs.flatMap encRow)
 coefs:OwnF w B 83 2 (fun i=>i<rvs.length) (rvV rvs) (rvN rvs) (rvX rvs)
abbrev ColsOwn (w:World) (B:Nat) (cv:Value) (cols:List ColM):Prop:=Own w B 34 5 cv cols.length (cols.flatMap encCol)
def OkWord (s:Txt):Prop:=s.length≤200∧∀ c∈s,c.toNat<128
theorem OkWord.nil:OkWord []:=⟨Nat.zero_le _,fun c h=>by cases h⟩
def StrLow (B:Nat) (w:World) (g o:Nat) (s:Txt):Prop:=g<B∧StrR w g o s∧OkWord s
abbrev StrsLow (B:Nat) (w:World) (v:Value) (l:List Txt):Prop:=SlIn (StrLow B) 1 w v l
theorem StrsLow.keep {B:Nat}{w w':World}{v:Value}{l:List Txt}(h:StrsLow B w v l) (hb:Below B w w'):StrsLow B w' v l:=
 h.imp fun g o x _ hx=>⟨hx.1,(hb.cell (p:=⟨g,o,none⟩) hx.1).trans hx.2.1,hx.2.2⟩
def intOfT (l:List (Txt × Int)) (s:Txt):Option Value:=(atT l s).map (Value.int .i64)
structure RD (B:Nat) (w:World) (r:Nat) (st:CSt) (rv cv lv:Value) (mr mc ms:Nat) (rvs:List RowV):Prop where
 blk:Row w r 91 #[.string ⟨st.c.name.toArray⟩,.string ⟨st.c.obj.toArray⟩,rv,cv,.int .i64 st.at_,.map (some mr),.map (some mc),.map (some ms),.bool st.integer,lv,.int .i64 st.e]
 rB:B≤r
 mrB:B≤mr
 mcB:B≤mc
 msB:B≤ms
 mrc:mr≠mc
 mrs:mr≠ms
 mcs:mc≠ms
 mapR:StrMap w mr (intOfT st.rows)
 mapC:StrMap w mc (intOfT st.cols)
 mapS:StrMap w ms (inSet st.seen)
 rows:RowsOwn w B rv rvs
 rowsEq:rvs.map (·.1)=st.c.rows
 cols:ColsOwn w B cv st.c.cols
 words:StrsLow B w lv st.l
def CR (B:Nat) (w:World) (r:Nat) (st:CSt):Prop:=∃ rv cv lv mr mc ms rvs,RD B w r st rv cv lv mr mc ms rvs
def Fr (w w':World):Prop:=∀ (g:Nat) (cs:Array Value) (t:TypeId) (fr:Nat × Nat),w.heap[g]?=some (.cells cs t fr)→t≠91→t≠45→t≠83→t≠34→w'.heap[g]?=some (.cells cs t fr)
theorem Fr.refl (w:World):Fr w w:=fun _ _ _ _ h _ _ _ _=>h
theorem Fr.trans {u v w:World}(h:Fr u v) (k:Fr v w):Fr u w:=fun g cs t fr h0 a b c d=>k g cs t fr (h g cs t fr h0 a b c d) a b c d
theorem Fr.same {w w':World}{b:Nat}{cs:Array Value}{t:TypeId}{fr:Nat × Nat}(hb:w.heap[b]?=some (.cells cs t fr)) (ht:t=91∨t=45∨t=83∨t=34) (hs:∀ g,g<w.heap.size→g≠b→w'.heap[g]?=w.heap[g]?):Fr w w':=fun g ds u f h0 a1 a2 a3 a4=>by
 rw[hs g ?_ ?_]
 ·exact h0
 ·rcases Nat.lt_or_ge g w.heap.size with h1|h1
  ·exact h1
  ·rw[Array.getElem?_eq_none h1]at h0;cases h0
 ·rintro rfl
  rw[hb]at h0
  injection h0 with h0
  injection h0 with _ h2 _
  subst h2
  rcases ht with h|h|h|h
  ·exact a1 h
  ·exact a2 h
  ·exact a3 h
  ·exact a4 h
theorem Fr.below {w w':World}(h:Below w.heap.size w w'):Fr w w':=fun g cs t fr h0 _ _ _ _=>by
 rw[h.block g ?_]
 ·exact h0
 ·rcases Nat.lt_or_ge g w.heap.size with h1|h1
  ·exact h1
  ·rw[Array.getElem?_eq_none h1]at h0;cases h0
theorem Fr.map_ {w w':World}{m:Nat}{f:List UInt8→Option Value}(hm:StrMap w m f) (hg:w.grownBy w' (some m)):Fr w w':=fun g cs t fr h0 _ _ _ _=>by
 rw[hg.block g ?_ fun e=>hm.ne h0 (Option.some.inj e)]
 ·exact h0
 ·rcases Nat.lt_or_ge g w.heap.size with h1|h1
  ·exact h1
  ·rw[Array.getElem?_eq_none h1]at h0;cases h0
def Turns (B:Nat) (r:Nat) (v:Value) (st:CSt) (w:World) (e:Ending) (w':World):Prop:=e=.returned v∧CR B w' r st∧Below B w w'∧w.heap.size≤w'.heap.size∧Fr w w'
theorem ne_of_type {w:World}{a b:Nat}{cs ds:Array Value}{t u:TypeId}{f g:Nat × Nat}(h:w.heap[a]?=some (.cells cs t f)) (k:w.heap[b]?=some (.cells ds u g)) (hn:t≠u):a≠b:=by
 rintro rfl
 rw[h]at k
 injection k with k
 injection k with k1 k2 k3
 exact hn k2
theorem RowsOwn.stay {w w':World}{B:Nat}{rv:Value}{rvs:List RowV}(h:RowsOwn w B rv rvs) (hs:∀ (g:Nat) (cur:Array Value),(w.heap[g]?=some (Obj.cells cur 45 (0,0))∨w.heap[g]?=some (Obj.cells cur 83 (0,0)))→w'.heap[g]?=w.heap[g]?):RowsOwn w' B rv rvs:=
 ⟨h.rows.stay fun g hg=>by obtain ⟨cur,hc⟩:=h.rows.typed hg;exact hs g cur (.inl hc),h.coefs.other fun g cur hc=>hs g cur (.inr hc)⟩
theorem RD.field {B:Nat}{w:World}{r:Nat}{st st':CSt}{rv cv lv lv':Value}{mr mc ms:Nat}{rvs:List RowV}(h:RD B w r st rv cv lv mr mc ms rvs) {w':World}(hw:∀ g,g≠r→w'.heap[g]?=w.heap[g]?)
 (hblk:Row w' r 91 #[.string ⟨st'.c.name.toArray⟩,.string ⟨st'.c.obj.toArray⟩,rv,cv,.int .i64 st'.at_,.map (some mr),.map (some mc),.map (some ms),.bool st'.integer,lv',.int .i64 st'.e])
 (h1:st'.c.rows=st.c.rows) (h2:st'.c.cols=st.c.cols) (h3:st'.rows=st.rows) (h4:st'.cols=st.cols) (h5:st'.seen=st.seen) (hl:StrsLow B w lv' st'.l):RD B w' r st' rv cv lv' mr mc ms rvs:=by
 have hm:∀ {m:Nat}{f:List UInt8→Option Value},StrMap w m f→StrMap w' m f:=fun hm=>hm.stay (hw _ fun e=>by
  have:=hm.ne h.blk
  exact this e.symm)
 refine ⟨hblk,h.rB,h.mrB,h.mcB,h.msB,h.mrc,h.mrs,h.mcs,h3▸hm h.mapR,h4▸hm h.mapC,h5▸hm h.mapS,?_,h1▸h.rowsEq,?_,?_⟩
 ·exact h.rows.stay fun g cur hg=>hw g fun e=>by
   rcases hg with hg|hg
   ·exact ne_of_type hg h.blk (by decide) e
   ·exact ne_of_type hg h.blk (by decide) e
 ·rw[h2]
  exact h.cols.stay fun g hg=>hw g fun e=>by
   obtain ⟨cur,hc⟩:=h.cols.typed hg
   exact ne_of_type hc h.blk (by decide) e
 ·exact hl.imp fun g o x _ hx=>⟨hx.1,by
   have:w'.heap[g]?=w.heap[g]?:=hw g (by have:=hx.1;have:=h.rB;omega)
   show w'.cell? _=_
   simp only[World.cell?,this]
   exact hx.2.1,hx.2.2⟩
theorem RD.keep {B:Nat}{w w':World}{r:Nat}{st:CSt}{rv cv lv:Value}{mr mc ms:Nat}{rvs:List RowV}(h:RD B w r st rv cv lv mr mc ms rvs) (hb:Below w.heap.size w w'):RD B w' r st rv cv lv mr mc ms rvs:=
 ⟨h.blk.keep hb,h.rB,h.mrB,h.mcB,h.msB,h.mrc,h.mrs,h.mcs,h.mapR.keep hb,h.mapC.keep hb,h.mapS.keep hb,⟨h.rows.rows.keep hb,h.rows.coefs.keep hb⟩,h.rowsEq,h.cols.keep hb,
  h.words.imp fun g o x _ hx=>⟨hx.1,cell_keep hx.2.1 hb,hx.2.2⟩⟩
theorem CR.keep {B:Nat}{w w':World}{r:Nat}{st:CSt}(h:CR B w r st) (hb:Below w.heap.size w w'):CR B w' r st:=by
 obtain ⟨rv,cv,lv,mr,mc,ms,rvs,h⟩:=h
 exact ⟨rv,cv,lv,mr,mc,ms,rvs,h.keep hb⟩
theorem StrsLow.ok {B:Nat}{w:World}{v:Value}{l:List Txt}(h:StrsLow B w v l):∀ s∈l,OkWord s:=fun s hs=>by
 obtain ⟨A,c,_,_,h3⟩:=h
 obtain ⟨i,hi⟩:=List.getElem?_of_mem hs
 obtain ⟨_,_,_,h4⟩:=h3 i s hi
 exact h4.2.2
theorem CR.ok {B:Nat}{w:World}{r:Nat}{st:CSt}(h:CR B w r st):∀ s∈st.l,OkWord s:=by
 obtain ⟨rv,cv,lv,mr,mc,ms,rvs,h⟩:=h
 exact h.words.ok
theorem CR.word {B:Nat}{w:World}{r:Nat}{st:CSt}(h:CR B w r st):OkWord st.word.1:=by
 have:=h.ok
 unfold CSt.word
 have hl:(st.fails st.l.isEmpty 1).l=st.l:=by unfold CSt.fails;split<;>rfl
 dsimp only
 split
 ·simp only[hl]
  cases hs:st.l with
  | nil=>exact OkWord.nil
  | cons a b=>exact this a (by rw[hs];simp)
 ·exact OkWord.nil
theorem RD.frame {B:Nat}{w:World}{r:Nat}{st:CSt}{rv cv lv:Value}{mr mc ms:Nat}{rvs:List RowV}(h:RD B w r st rv cv lv mr mc ms rvs) {w':World}(hs:∀ g,g<w.heap.size→g≠r→w'.heap[g]?=w.heap[g]?):Fr w w':=Fr.same h.blk (.inl rfl) hs
theorem CR.frame {B:Nat}{w:World}{r:Nat}{st:CSt}(h:CR B w r st) {w':World}(hs:∀ g,g<w.heap.size→g≠r→w'.heap[g]?=w.heap[g]?):Fr w w':=by
 obtain ⟨rv,cv,lv,mr,mc,ms,rvs,h⟩:=h
 exact h.frame hs
theorem below_set {B:Nat}{w:World}{p:Addr}{u:Value}(h:B≤p.block):Below B w (w.setCell p u):=(Below.refl _ _).setCell h _
end Vic
end
section
namespace Vic
open Go Go.RowKit
def StrTy (w:World) (g o:Nat) (s:Txt):Prop:=(∃ cur fr,w.heap[g]?=some (.cells cur 9 fr))∧StrR w g o s
theorem StrTy.firm:Firm StrTy:=fun w w' g o x ⟨⟨cur,fr,h⟩,k⟩ hb=>⟨⟨cur,fr,(hb.block g (block_lt k)).trans h⟩,StrR.firm _ _ _ _ _ k hb⟩
abbrev StrsTy (w:World) (v:Value) (l:List Txt):Prop:=SlIn StrTy 1 w v l
theorem StrsTy.strs {w:World}{v:Value}{l:List Txt}(h:StrsTy w v l):StrsIn w v l:=h.imp fun _ _ _ _ h=>h.2
end Vic
namespace Go.Proofs.YtjipjfoambbofaaGreatDoor
open Go.Shelf Go.RowKit Vic
theorem strings_TrimSuffix (w:World) (s p:List UInt8) (hs:s.length≤9223372036854775807) :
 Calls Tryz.prog 92 #[.string ⟨s.toArray⟩,.string ⟨p.toArray⟩] w (Rets (.string ⟨(Lib.trimSuffix s p).toArray⟩) w):=by
 refine (Go.Proofs.Tryz.strings_TrimSuffix (s:=⟨s.toArray⟩) (p:=⟨p.toArray⟩) (hs:=by show s.toArray.size≤_;simpa using hs) (w:=w)).mono ?_
 rintro e w' ⟨rfl,rfl⟩
 exact ⟨rfl,rfl⟩
theorem blank_c1 (x:Nat) (hx:x≤1114111) (w:World):Calls Tryz.prog 36 #[.int .i32 (x:Int)] w (Rets (.bool (blankR x)) w):=by
 have e:blankR x=(((x:Int) == 32) || ((x:Int) == 9) || ((x:Int) == 13)):=by
  unfold blankR
  rw[Bool.eq_iff_iff]
  simp
  omega
 rw[e]
 by_cases h1:x=32
 ·subst h1
  go_enter Tryz.func36,Tryz.ntmps36
  go_wp2_with fail
  go_ret
  exact ⟨rfl,rfl⟩
 ·have b1:((x:Int) == 32)=false:=by rw[beq_eq_false_iff_ne];omega
  by_cases h2:x=9
  ·subst h2
   go_enter Tryz.func36,Tryz.ntmps36
   go_wp2_with fail
   go_ret
   exact ⟨rfl,rfl⟩
  ·have b2:((x:Int) == 9)=false:=by rw[beq_eq_false_iff_ne];omega
   rw[b1,b2]
   have H1:=Lib.hid b1
   have H2:=Lib.hid b2
   by_cases h3:x=13
   ·subst h3
    go_enter Tryz.func36,Tryz.ntmps36
    go_wp2_with fail
    go_ret
    exact ⟨rfl,rfl⟩
   ·have b3:((x:Int) == 13)=false:=by rw[beq_eq_false_iff_ne];omega
    rw[b3]
    go_enter Tryz.func36,Tryz.ntmps36
    go_wp2_with fail
    go_ret
    exact ⟨ret_bool (by first|rfl|rw[b1,b2,b3]),rfl⟩
theorem enter_blank:∀ args w,(callFunc 36 args).run Tryz.prog w=.ok (.enter 36 args) w:=fun _ _=>by kernel_rfl
theorem strings_FieldsFunc (w:World) (s:Txt) (hs:s.length≤4294967296) (ha:∀ c∈s,c.toNat<128) :
 Calls Tryz.prog 35 #[.string ⟨s.toArray⟩,.func (.func 36) #[] #[]] w (Gives (fun v w'=>StrsTy w' v (fieldsB s)∧∃ a c,v=.slice a (fieldsB s).length c) w):=by
 refine (Go.Proofs.Tryz.strings_FieldsFunc_runes 36 #[] enter_blank blankR ⟨s.toArray⟩ w (by show s.toArray.size≤_;simpa using hs) (fun W x hx hb=>(blank_c1 x hx W).mono fun e w' ⟨h1,h2⟩=>⟨h1,0,h2.symm⟩)).mono ?_
 rintro e w' ⟨A,rfl,hA,ho,hb⟩
 rw[goFields_flds s ha]at ho ⊢
 simp only[List.length_map]at ho ⊢
 refine ⟨_,rfl,⟨⟨_,_,rfl,Nat.le_refl _,fun i x hx=>⟨A,0,rfl,?_⟩⟩,_,_,rfl⟩,hb⟩
 obtain ⟨h1,⟨h2,_⟩|⟨g,cap,cur,h3,h4,h5,h6,h7,h8,h9⟩⟩:=ho
 ·cases h2
 ·injection h3 with h3 _ h10
  injection h3 with h3
  injection h3 with h3
  subst h3
  refine ⟨⟨cur,_,h5⟩,?_⟩
  have hi:=(List.getElem?_eq_some_iff.1 hx).1
  have hc:=congrArg (fun l=>l[i]?) h9
  simp only[List.getElem?_take,List.getElem?_map,hx,Option.map_some,Nat.mul_one]at hc
  rw[if_pos hi]at hc
  show w'.cell? ⟨A,0+i*1,none⟩=_
  simp only[World.cell?,h5]
  rw[Nat.zero_add,Nat.mul_one]
  simpa using hc
theorem strings_ToLower (w:World) (s:Txt) (hs:s.length≤1000000) (ha:∀ c∈s,c.toNat<128):Calls Tryz.prog 268 #[.string ⟨s.toArray⟩] w (Keeps (.string ⟨(Lib.toLowerA s).toArray⟩) w):=
 (Go.Proofs.Tryz.strings_ToLower_ascii ⟨s.toArray⟩ w (by show s.toArray.size≤_;simp;omega) (fun j b hb=>ha b (List.mem_of_getElem? hb))).mono fun _ _ h=>h
end Go.Proofs.YtjipjfoambbofaaGreatDoor
end
section
namespace Vic
open Go Go.RowKit
def BytesAt (w:World) (b:Nat) (l:Txt):Prop:=∀ (i:Nat) (x:UInt8),l[i]?=some x→w.cell? ⟨b,i,none⟩=some (.int .u8 (x.toNat:Int))
def anyIdx {α:Type}(p:α→Bool) (l:List α):Int:=match l.findIdx? p with|some i=>(i:Nat)|none=>-1
theorem anyIdx_hit {α:Type}{p:α→Bool}{l:List α}{k:Nat}{x:α}(h:l[k]?=some x) (hp:p x=true) (hn:∀ (j:Nat) (y:α),j<k→l[j]?=some y→p y=false):anyIdx p l=(k:Nat):=by
 unfold anyIdx
 have:l.findIdx? p=some k:=by
  obtain ⟨hk,hx⟩:=List.getElem?_eq_some_iff.1 h
  rw[List.findIdx?_eq_some_iff_getElem]
  refine ⟨hk,by rw[hx];exact hp,fun j hj=>?_⟩
  have:=hn j l[j] hj (by simp)
  simp[this]
 rw[this]
theorem anyIdx_miss {α:Type}{p:α→Bool}{l:List α}(hn:∀ (j:Nat) (y:α),l[j]?=some y→p y=false):anyIdx p l=-1:=by
 unfold anyIdx
 have:l.findIdx? p=none:=by
  rw[List.findIdx?_eq_none_iff]
  intro x hx
  obtain ⟨j,hj⟩:=List.getElem?_of_mem hx
  exact hn j x hj
 rw[this]
theorem anyIdx_any {α:Type}(p:α→Bool) (l:List α):decide (0≤anyIdx p l)=l.any p:=by
 unfold anyIdx
 cases h:l.findIdx? p with
 | none=>
   rw[List.findIdx?_eq_none_iff]at h
   have:l.any p=false:=List.any_eq_false.2 fun x hx=>by simpa using h x hx
   rw[this];rfl
 | some i=>
   obtain ⟨hi,hp,_⟩:=List.findIdx?_eq_some_iff_getElem.1 h
   have:l.any p=true:=List.any_eq_true.2 ⟨_,List.getElem_mem hi,hp⟩
   rw[this]
   simp
end Vic
namespace Go.Proofs.YtjipjfoambbofaaGreatDoor
open Go.Shelf Go.RowKit Vic
set_option maxRecDepth 100000 in
set_option maxHeartbeats 2000000 in
theorem idxf_byte (w:World) (b c:Nat) (l:Txt) (p:UInt8→Bool) (g:Nat) (hl:l.length≤c) (hm:c≤maxLen) (hc:BytesAt w b l) (eg:∀ args w,(callFunc g args).run Tryz.prog w=.ok (.enter g args) w) (H:∀ x wr,Calls Tryz.prog g #[.int .u8 (UInt8.toNat x:Int)] wr (Rets (.bool (p x)) wr)) :
 Calls Tryz.prog 166 #[.slice (some ⟨b,0,none⟩) l.length c,.func (.func g) #[] #[]] w (Rets (.int .i64 (anyIdx p l)) w):=by
 unfold maxLen at hm
 have HC:=Lib.hid hc
 have HH:=Lib.hid H
 have HM:Hid (∀ (j:Nat) (y:UInt8),j<0→l[j]?=some y→p y=false):=fun j y h=>by omega
 clear hc H
 go_enter Tryz.func166,Tryz.ntmps166
 go_wp2_with fail
 go_loop [8] (fun t=>∃ k:Nat,t=.int .i64 k∧k≤l.length∧Hid (∀ (j:Nat) (y:UInt8),j<k→l[j]?=some y→p y=false)) (fun t=>l.length - (intOf t).toNat)
 case atStart=>exact ⟨0,rfl,Nat.zero_le _,HM⟩
 case round=>
  obtain ⟨k,rfl,hk,hz⟩:=hrel
  by_cases hlt:k<l.length
  ·obtain ⟨x,hx⟩:∃ x,l[k]?=some x:=⟨l[k],by simp[hlt]⟩
   have hcell:=HC.out k x hx
   have CC:=Lib.hid (HH.out x)
   have HX:=Lib.hid hx
   clear hx
   by_cases hp:p x=true
   ·rw[hp]at CC
    have HP:=Lib.hid hp
    clear hp
    go_wp2_with fail
    refine (CC.out _).mono ?_
    rintro e w1 ⟨rfl,rfl⟩
    go_wp2_with fail
    go_ret
    exact ⟨ret_int (anyIdx_hit HX.out HP.out hz.out).symm,rfl⟩
   ·have hp':p x=false:=by simpa using hp
    rw[hp']at CC
    have hz2:Hid (∀ (j:Nat) (y:UInt8),j<k+1→l[j]?=some y→p y=false):=fun j y hj hy=>by
     rcases Nat.lt_or_eq_of_le (Nat.le_of_lt_succ hj)with h1|h1
     ·exact hz.out j y h1 hy
     ·subst h1
      rw[HX.out]at hy
      cases hy
      exact hp'
    clear hp hp'
    go_wp2_with fail
    refine (CC.out _).mono ?_
    rintro e w1 ⟨rfl,rfl⟩
    go_wp2_with fail
    go_round
    case rel=>exact ⟨k+1,rfl,by omega,hz2⟩
    case measure=>simp[intOf];omega
  ·obtain rfl:k=l.length:=by omega
   have hm2:Hid (anyIdx p l=-1):=anyIdx_miss fun j y hy=>hz.out j y (List.getElem?_eq_some_iff.1 hy).1 hy
   go_wp2_with fail
   go_ret
   exact ⟨ret_int hm2.out.symm,rfl⟩
theorem conf_byte (w:World) (b c:Nat) (l:Txt) (p:UInt8→Bool) (g:Nat) (hl:l.length≤c) (hm:c≤maxLen) (hc:BytesAt w b l) (eg:∀ args w,(callFunc g args).run Tryz.prog w=.ok (.enter g args) w) (H:∀ x wr,Calls Tryz.prog g #[.int .u8 (UInt8.toNat x:Int)] wr (Rets (.bool (p x)) wr)) :
 Calls Tryz.prog 93 #[.slice (some ⟨b,0,none⟩) l.length c,.func (.func g) #[] #[]] w (Rets (.bool (l.any p)) w):=by
 have CI:=Lib.hid (idxf_byte w b c l p g hl hm hc eg H)
 rw[← anyIdx_any]
 generalize anyIdx p l=i at *
 clear hc H eg
 go_enter Tryz.func93,Tryz.ntmps93
 go_wp2_with fail
 refine CI.out.mono ?_
 rintro e w1 ⟨rfl,rfl⟩
 go_wp2_with fail
 go_ret
 exact ⟨rfl,rfl⟩
theorem name_c1 (x:UInt8) (w:World):Calls Tryz.prog 154 #[.int .u8 (UInt8.toNat x:Int)] w (Rets (.bool (badC x)) w):=by
 have hx:=x.toNat_lt
 have e:badC x=(decide ((x.toNat:Int)≤32) || decide (126<(x.toNat:Int))):=by
  unfold badC
  rw[Bool.eq_iff_iff]
  simp[UInt8.le_iff_toNat_le,UInt8.lt_iff_toNat_lt]
  omega
 rw[e]
 generalize x.toNat=n at *
 by_cases h1:n≤32
 ·go_enter Tryz.func154,Tryz.ntmps154
  go_wp2_with fail
  go_ret
  exact ⟨ret_bool (by first|(simp;done)|(simp;omega)),rfl⟩
 ·by_cases h2:126<n
  ·go_enter Tryz.func154,Tryz.ntmps154
   go_wp2_with fail
   go_ret
   exact ⟨ret_bool (by first|(simp;done)|(simp;omega)),rfl⟩
  ·go_enter Tryz.func154,Tryz.ntmps154
   go_wp2_with fail
   go_ret
   exact ⟨ret_bool (by first|(simp;done)|(simp;omega)),rfl⟩
theorem look_c1 (x:UInt8) (w:World):Calls Tryz.prog 94 #[.int .u8 (UInt8.toNat x:Int)] w (Rets (.bool (badL x)) w):=by
 have hx:=x.toNat_lt
 have e:badL x=(decide (126<(x.toNat:Int)) || (decide ((x.toNat:Int)<32) && !decide ((x.toNat:Int)=9))):=by
  unfold badL
  rw[Bool.eq_iff_iff]
  simp[UInt8.lt_iff_toNat_lt,← UInt8.toNat_inj]
  omega
 rw[e]
 generalize x.toNat=n at *
 by_cases h1:126<n
 ·go_enter Tryz.func94,Tryz.ntmps94
  go_wp2_with fail
  go_ret
  exact ⟨ret_bool (by first|(simp;done)|(simp;omega)),rfl⟩
 ·by_cases h2:n<32
  ·by_cases h3:n=9
   ·subst h3
    go_enter Tryz.func94,Tryz.ntmps94
    go_wp2_with fail
    go_ret
    exact ⟨rfl,rfl⟩
   ·have h4:((n:Int) == 9)=false:=by rw[beq_eq_false_iff_ne];omega
    go_enter Tryz.func94,Tryz.ntmps94
    go_wp2_with fail
    go_ret
    have h5:((n:Int) != 9)=true:=by rw[bne,h4];rfl
    exact ⟨ret_bool (by rw[h5,decide_eq_true (show (n:Int)<32 by omega),decide_eq_false (show ¬ (n:Int)=9 by omega)];simp),rfl⟩
  ·go_enter Tryz.func94,Tryz.ntmps94
   go_wp2_with fail
   go_ret
   exact ⟨ret_bool (by first|(simp;done)|(simp;omega)),rfl⟩
theorem bytes_of (w:World) (s:Txt) (hs:s.length≤140737488355328):∃ c w1,(convert 9 126 (.string ⟨s.toArray⟩)).run Tryz.prog w=.ok (.slice (some ⟨w.heap.size,0,none⟩) s.length c) w1∧s.length≤c∧c≤maxLen∧BytesAt w1 w.heap.size s∧Below w.heap.size w w1:=by
 have hsz:(⟨s.toArray⟩:ByteArray).size=s.length:=by show s.toArray.size=_;simp
 have h:=Lib.run_convert_string_bytes (P:=Tryz.prog) w 9 126 5 ⟨s.toArray⟩ (u:=.string) (by kernel_rfl) (by kernel_rfl) (by kernel_rfl)
 rw[hsz]at h
 refine ⟨_,_,h,grownCap_ge _ _ _ _,grownCap_le_maxLen _ _ _ _ (by unfold maxLen;omega),fun i x hx=>?_,Lib.bytesWorld_below _ _ _⟩
 have hi:=(List.getElem?_eq_some_iff.1 hx).1
 rw[Lib.bytesWorld_cell w _ ⟨s.toArray⟩ i (by rw[hsz];exact hi)]
 simp[List.getD,hx]
theorem enter_name:∀ args w,(callFunc 154 args).run Tryz.prog w=.ok (.enter 154 args) w:=fun _ _=>by kernel_rfl
theorem enter_look:∀ args w,(callFunc 94 args).run Tryz.prog w=.ok (.enter 94 args) w:=fun _ _=>by kernel_rfl
set_option maxRecDepth 100000 in
theorem words_Name (w:World) (s:Txt) (hs:s.length≤140737488355328):Calls Tryz.prog 84 #[.string ⟨s.toArray⟩] w (Keeps (.bool (nameB s)) w):=by
 obtain ⟨c,w1,hcv,h1,h2,h3,hb⟩:=bytes_of w s hs
 have CF:=Lib.hid (conf_byte w1 w.heap.size c s badC 154 h1 h2 h3 enter_name fun x wr=>name_c1 x wr)
 have hn:nameB s=(!s.any badC && decide (1≤s.length) && decide (s.length≤20)):=rfl
 rw[hn]
 have hsz:(⟨s.toArray⟩:ByteArray).size=s.length:=by show s.toArray.size=_;simp
 have HZ:=Lib.hid hsz
 generalize s.any badC=bad at *
 clear hn h1 h2 h3 hsz hs
 go_enter Tryz.func84,Tryz.ntmps84
 go_wp2_with fail
 refine CF.out.mono ?_
 rintro e w2 ⟨rfl,rfl⟩
 cases bad
 ·by_cases h4:1≤s.length
  ·by_cases h5:s.length≤20
   ·go_wp2_with fail
    go_ret
    exact ⟨ret_bool (by simp[h4,h5];try omega),hb⟩
   ·go_wp2_with fail
    go_ret
    exact ⟨ret_bool (by simp[h4,h5];try omega),hb⟩
  ·go_wp2_with fail
   go_ret
   exact ⟨ret_bool (by simp[h4];try omega),hb⟩
 ·go_wp2_with fail
  go_ret
  exact ⟨rfl,hb⟩
set_option maxRecDepth 100000 in
theorem words_look (w:World) (s:Txt) (hs:s.length≤140737488355328):Calls Tryz.prog 34 #[.string ⟨s.toArray⟩] w (Keeps (.int .i64 (lookB s)) w):=by
 have hsz:(⟨s.toArray⟩:ByteArray).size=s.length:=by show s.toArray.size=_;simp
 have CT:=Lib.hid (strings_TrimSuffix w s [13] (by omega))
 have htl:(trimCr s).length≤s.length:=by
  unfold trimCr Lib.trimSuffix
  split
  ·simp
  ·exact Nat.le_refl _
 obtain ⟨c,w1,hcv,h1,h2,h3,hb⟩:=bytes_of w (trimCr s) (by omega)
 have CF:=Lib.hid (conf_byte w1 w.heap.size c (trimCr s) badL 94 h1 h2 h3 enter_look fun x wr=>look_c1 x wr)
 have HL:Hid (lookB s=if 200<s.length then 6 else if (trimCr s).any badL then 1 else 0):=rfl
 rw[show Lib.trimSuffix s [13]=trimCr s from rfl]at CT
 generalize (trimCr s).any badL=bad at *
 generalize lookB s=r at *
 generalize trimCr s=t at *
 clear h1 h2 h3 hs htl
 by_cases h4:200<s.length
 ·have HR:Hid (r=6):=by rw[HL.out,if_pos h4];exact rfl
  clear HL hsz
  go_enter Tryz.func34,Tryz.ntmps34
  go_wp2_with fail
  go_ret
  exact ⟨ret_int HR.out.symm,Below.refl _ _⟩
 ·have HR:Hid (r=if bad=true then 1 else 0):=by rw[HL.out,if_neg h4];exact rfl
  clear HL
  go_enter Tryz.func34,Tryz.ntmps34
  go_wp2_with fail
  refine CT.out.mono ?_
  rintro e w2 ⟨rfl,rfl⟩
  go_wp2_with fail
  refine CF.out.mono ?_
  rintro e w2 ⟨rfl,rfl⟩
  cases bad
  ·go_wp2_with fail
   go_ret
   exact ⟨ret_int (by rw[HR.out];rfl),hb⟩
  ·go_wp2_with fail
   go_ret
   exact ⟨ret_int (by rw[HR.out];rfl),hb⟩
end Go.Proofs.YtjipjfoambbofaaGreatDoor
end
section
namespace Vic
open Go Go.RowKit
abbrev LineV:=LineM × Value
def encLine (x:LineV):List Value:=[.int .i64 (x.1.no:Nat),.bool x.1.head,x.2]
theorem encLine_len (x:LineV):(encLine x).length=3:=rfl
structure LinesOwn (w:World) (B:Nat) (v:Value) (lvs:List LineV):Prop where
 own:Own w B 80 3 v lvs.length (lvs.flatMap encLine)
 words:∀ x∈lvs,StrsTy w x.2 x.1.words
theorem LinesOwn.keep {w w':World}{B:Nat}{v:Value}{lvs:List LineV}(h:LinesOwn w B v lvs) (hb:Below w.heap.size w w'):LinesOwn w' B v lvs:=⟨h.own.keep hb,fun x hx=>(h.words x hx).keep StrTy.firm hb⟩
theorem LinesOwn.in_ {w:World}{B:Nat}{v:Value}{lvs:List LineV}(h:LinesOwn w B v lvs):LinesIn w v (lvs.map (·.1)):=by
 have hs:SlIn (fun w g o (x:LineV)=>LineR w g o x.1) 3 w v lvs:=h.own.slIn encLine_len fun g i x hx hc=>by
  refine ⟨x.2,?_,?_,?_,(h.words x (List.mem_of_getElem? hx)).strs⟩
  ·have:=hc 0 _ rfl;simpa using this
  ·exact hc 1 _ rfl
  ·exact hc 2 _ rfl
 obtain ⟨A,c,h1,h2,h3⟩:=hs
 refine ⟨A,c,by simpa using h1,by simpa using h2,fun i x hx=>?_⟩
 rw[List.getElem?_map]at hx
 cases hv:lvs[i]? with
 | none=>rw[hv]at hx;simp at hx
 | some y=>
   rw[hv]at hx
   simp only[Option.map_some,Option.some.injEq]at hx
   subst hx
   exact h3 i y hv
theorem LinesOwn.add {w w':World}{B:Nat}{v v':Value}{lvs:List LineV}(h:LinesOwn w B v lvs) (x:LineV) (hx:StrsTy w x.2 x.1.words) (ho:Own w' B 80 3 v' (lvs.length+1) (lvs.flatMap encLine ++ encLine x)) (hg:w.grownBy w' v.ownBlock):LinesOwn w' B v' (lvs ++ [x]):=by
 have hs:∀ (sv:Value) (l:List Txt),StrsTy w sv l→StrsTy w' sv l:=fun sv l hl=>hl.imp fun g o s _ ⟨⟨cur,fr,hb⟩,k⟩=>by
  have:w'.heap[g]?=w.heap[g]?:=hg.block g (block_lt k) fun e=>by
   obtain ⟨cur',hc'⟩:=h.own.typed e.symm
   rw[hb]at hc'
   injection hc' with hc'
   injection hc' with _ h2 _
   exact absurd h2 (by decide)
  exact ⟨⟨cur,fr,this.trans hb⟩,by show w'.cell? _=_;simp only[World.cell?,this];exact k⟩
 refine ⟨by simpa using ho,fun y hy=>?_⟩
 rcases List.mem_append.1 hy with hy|hy
 ·exact hs _ _ (h.words y hy)
 ·simp at hy;subst hy;exact hs _ _ hx
def WordsGot (t:Txt) (w:World) (e:Ending) (w':World):Prop:=∃ v,e=.returned (.tuple #[v,.int .i64 ((wordsGet t).2.1:Nat),.int .i64 (wordsGet t).2.2])∧LinesIn w' v (wordsGet t).1∧Below w.heap.size w w'
theorem look_ascii {s:Txt}(h:lookB s=0):∀ c∈s,c.toNat<128:=by
 intro c hc
 unfold lookB at h
 split at h
 ·cases h
 ·split at h
  ·cases h
  ·rename_i h2
   have h3:(trimCr s).any badL=false:=by simpa using h2
   by_cases h13:c=13
   ·subst h13;decide
   ·have hm:c∈trimCr s:=by
     unfold trimCr Lib.trimSuffix
     split
     ·rename_i hs
      obtain ⟨t,ht⟩:=List.isSuffixOf_iff_suffix.1 hs
      rw[← ht]at hc ⊢
      simp at hc ⊢
      rcases hc with hc|hc
      ·exact hc
      ·exact absurd hc h13
     ·exact hc
    have:=List.any_eq_false.1 h3 c hm
    unfold badL at this
    simp only[Bool.or_eq_true,not_or,decide_eq_true_eq,UInt8.lt_iff_toNat_lt]at this
    have:=this.1
    have e:(126:UInt8).toNat=126:=rfl
    omega
theorem get_step {no:Nat}{t:Txt}{acc:List LineM}(h:t≠[]) :
 getFrom no (spl t) acc=if 2500<no then ([],no,6)else if lookB (cutNl t).1≠0 then ([],no,lookB (cutNl t).1)else getFrom (no+1) (spl (cutNl t).2) (acc ++ lineOf no (cutNl t).1):=by
 rw[(spl_cut h).1];rfl
end Vic
namespace Go.Proofs.YtjipjfoambbofaaGreatDoor
open Go.RowKit Vic
theorem info_Line0:(Tryz.prog.info? 80).map (fun i=>(i.zero,i.size,i.bytes))=some (some (.agg #[.int .i64 0,.bool false,.slice none 0 0]),3,40):=by kernel_rfl
theorem info_Line:∃ i:TypeInfo,Tryz.prog.info? 80=some i∧i.zero=some (.agg #[.int .i64 0,.bool false,.slice none 0 0])∧i.size=3∧i.bytes=40:=by
 have h:=info_Line0
 cases hi:Tryz.prog.info? 80 with
 | none=>rw[hi]at h;simp at h
 | some i=>rw[hi]at h;simp at h;exact ⟨i,rfl,h.1,h.2.1,h.2.2⟩
set_option maxRecDepth 100000 in
set_option maxHeartbeats 8000000 in
theorem words_Get (w:World) (t:Txt) (ht:Tab w) (hs:t.length≤4294967280):Calls Tryz.prog 15 #[.string ⟨t.toArray⟩] w (WordsGot t w):=by
 unfold WordsGot
 have HT:=Lib.hid ht
 have HR:Hid (wordsGet t=getFrom (0+1) (spl t) (([]:List LineV).map (·.1))):=rfl
 generalize wordsGet t=R at *
 have HS:=Lib.hid hs
 obtain ⟨i1,hi1,hz1,hsz1,hby1⟩:=info_Line
 clear ht hs
 go_enter Tryz.func15,Tryz.ntmps15
 go_wp2_with fail
 go_loopw [0,5,6] (fun tv v nv wr=>∃ (s:Txt) (k:Nat) (lvs:List LineV) (vv:Value),tv=.string ⟨s.toArray⟩∧vv=v∧nv=.int .i64 ((k:Int)+1)∧k≤2500∧lvs.length≤k∧Hid (s.length≤4294967280)∧Hid (R=getFrom (k+1) (spl s) (lvs.map (·.1)))∧Hid (LinesOwn wr w.heap.size vv lvs)∧Below w.heap.size w wr) (fun tv _ _ _=>strLen tv)
 case atStart=>exact ⟨t,0,[],_,rfl,rfl,rfl,by omega,Nat.le_refl _,HS,HR,⟨OwnK.nil_ _ _ _ _ _,fun x hx=>by simp at hx⟩,Below.refl _ _⟩
 case round=>
  obtain ⟨s,k,lvs,vv,rfl,rfl,rfl,hk,hlk,hsl,hR,hown,hbr⟩:=hrel
  by_cases hne:s = []
  ·subst hne
   have HE:Hid (R=(lvs.map (·.1),0,0)):=hR.out
   go_wp2_with fail
   go_ret3
   exact ⟨vv,by rw[HE.out];rfl,by rw[HE.out];exact hown.out.in_,hbr⟩
  ·have hse:s.isEmpty=false:=by
    cases s with
    | nil=>exact absurd rfl hne
    | cons a b=>rfl
   obtain ⟨hc1,hc2,hc3⟩:=spl_cut hne
   have CC:=Lib.hid (strings_Cut wr (HT.out.keep hbr) s [10] (by have:=hsl.out;omega))
   have hR2:=hR.out.trans (get_step hne)
   have hll:(cutNl s).1.length≤s.length:=cut_len1 s [10]
   unfold cutNl at hc1 hc2 hc3 hR2 hll
   generalize Lib.cut s [10]=ct at *
   obtain ⟨a,b,fd⟩:=ct
   simp only at hc1 hc2 hc3 hR2 hll CC
   have HR2:=Lib.hid hR2
   have HC2:=Lib.hid hc2
   have HLL:=Lib.hid hll
   clear hne hc1 hc3 hR hR2 hc2 hll
   go_wp2_with fail
   refine CC.out.mono ?_
   rintro e w1 ⟨rfl,hb1⟩
   have B1:=hbr.trans (hb1.mono hbr.size)
   by_cases hk2:2500<k+1
   ·have HE:Hid (R=([],k+1,6)):=by
     have:=HR2.out
     rwa [if_pos hk2]at this
    go_wp2_with fail
    go_ret3
    exact ⟨_,by rw[HE.out];rfl,by rw[HE.out];exact SlIn.nil_ _ _ _,B1⟩
   ·have hR3:=HR2.out
    rw[if_neg hk2]at hR3
    have HR3:=Lib.hid hR3
    have CL:=Lib.hid (words_look w1 a (by have:=hsl.out;have:=HLL.out;omega))
    have HAS:=Lib.hid (look_ascii (s:=a))
    generalize lookB a=r at *
    clear HR2 hR3
    have hk3:(k:Int)+1≤2500:=by omega
    go_wp2_with fail
    refine CL.out.mono ?_
    rintro e w2 ⟨rfl,hb2⟩
    have B2:=B1.trans (hb2.mono B1.size)
    by_cases hr:r=0
    ·subst hr
     have hR4:=HR3.out
     rw[if_neg (by simp)]at hR4
     have HR4:=Lib.hid hR4
     have CF:=Lib.hid (strings_FieldsFunc w2 a (by have:=hsl.out;have:=HLL.out;omega) (HAS.out rfl))
     clear HR3 hR4
     go_wp2_with fail
     refine CF.out.mono ?_
     rintro e w3 ⟨fv,rfl,⟨hfs,fa,fc,rfl⟩,hb3⟩
     have B3:=B2.trans (hb3.mono B2.size)
     have HF:=Lib.hid hfs
     clear hfs
     have hff:=Lib.hid (show lineOf (k+1) a=if fieldsB a = []∨a.head?=some 42 then []else [⟨k+1,a.head? != some 32 && a.head? != some 9,fieldsB a⟩]from rfl)
     have hfn:Hid ((fieldsB a).length=0→fieldsB a = []):=fun h=>List.eq_nil_of_length_eq_zero h
     have hfa:Hid (fieldsB a≠[]→a≠[]):=fun h e=>h (by subst e;rfl)
     generalize fieldsB a=fs at *
     generalize lineOf (k+1) a=lo at *
     by_cases hf0:fs.length=0
     ·have HE:Hid (lo = []):=by
       show _=_
       rw[hff.out,if_pos (Or.inl (hfn.out hf0))]
      have hR5:=HR4.out
      rw[HE.out,List.append_nil]at hR5
      have HR5:=Lib.hid hR5
      have hfl:((fs.length:Int) == 0)=true:=by rw[beq_iff_eq];omega
      have hO:=Lib.hid (hown.out.keep ((hb1.trans (hb2.mono hb1.size)).trans (hb3.mono (Nat.le_trans hb1.size hb2.size))))
      clear hR5 HR4
      go_wp2_with fail
      go_roundw
      case rel=>exact ⟨b,k+1,lvs,vv,rfl,rfl,by go_num,by omega,by omega,by have:=HC2.out;have:=hsl.out;exact Lib.hid (by omega),HR5,hO,B3⟩
      case measure=>simp[strLen,ByteArray.size];have:=HC2.out;omega
     ·have hfl:((fs.length:Int) == 0)=false:=by rw[beq_eq_false_iff_ne];omega
      obtain ⟨c,a2,rfl⟩:∃ c a2,a=c :: a2:=by
       cases a with
       | nil=>exact absurd rfl (hfa.out fun e=>hf0 (by rw[e];rfl))
       | cons c a2=>exact ⟨c,a2,rfl⟩
      have hcx:=c.toNat_lt
      have hO:=Lib.hid (hown.out.keep ((hb1.trans (hb2.mono hb1.size)).trans (hb3.mono (Nat.le_trans hb1.size hb2.size))))
      have hne:=Lib.hid (show fs≠[]from fun e=>hf0 (by rw[e];rfl))
      clear hf0 hfa hfn HAS HLL hown
      by_cases h42:c=42
      ·subst h42
       have HE:Hid (lo = []):=by
        show _=_
        rw[hff.out];simp
       have hR5:=HR4.out
       rw[HE.out,List.append_nil]at hR5
       have HR5:=Lib.hid hR5
       clear hR5 HR4
       go_wp2_with fail
       go_roundw
       case rel=>exact ⟨b,k+1,lvs,vv,rfl,rfl,by go_num,by omega,by omega,by have:=HC2.out;have:=hsl.out;exact Lib.hid (by omega),HR5,hO,B3⟩
       case measure=>simp[strLen,ByteArray.size];have:=HC2.out;omega
      ·have h42':((c.toNat:Int) == 42)=false:=by
        rw[beq_eq_false_iff_ne]
        intro e
        exact h42 (UInt8.toNat_inj.1 (by have:(42:UInt8).toNat=42:=rfl;omega))
       have hix:∀ h,(⟨(c :: a2).toArray⟩:ByteArray)[0]'h=c:=fun _=>rfl
       have hk7:w.heap.size≤w3.heap.size:=B3.size
       have HE:∀ hd:Bool,(c != 32 && c != 9)=hd→Hid (lo = [⟨k+1,hd,fs⟩]):=fun hd e=>by
        show _=_
        rw[hff.out,if_neg (by simp[hne.out,h42]),← e]
        rfl
       have fin:Hid (∀ (hd:Bool) (v6:Value) (w6:World),(c != 32 && c != 9)=hd→Own w6 w.heap.size 80 3 v6 (lvs.length+1) (lvs.flatMap encLine ++ [.int .i64 ((k:Int)+1),.bool hd,.slice fa fs.length fc]) →
        (w3.alloc (.cells #[.int .i64 ((k:Int)+1),.bool hd,.slice fa fs.length fc] 80)).grownBy w6 vv.ownBlock →
        Hid (R=getFrom (k+1+1) (spl b) ((lvs ++ [((⟨k+1,hd,fs⟩:LineM),Value.slice fa fs.length fc)]).map (·.1)))∧Hid (LinesOwn w6 w.heap.size v6 (lvs ++ [((⟨k+1,hd,fs⟩:LineM),Value.slice fa fs.length fc)]))∧Below w.heap.size w w6):=
        Lib.hid fun hd v6 w6 he ho hg=>by
         have hal:Below w3.heap.size w3 (w3.alloc (.cells #[.int .i64 ((k:Int)+1),.bool hd,.slice fa fs.length fc] 80)):=(Below.refl _ _).alloc (Nat.le_refl _) _
         refine ⟨?_,?_,?_⟩
         ·show R=_
          rw[HR4.out,(HE hd he).out];simp
         ·exact (hO.out.keep hal).add _ (HF.out.keep StrTy.firm hal) ho hg
         ·refine (B3.trans (hal.mono B3.size)).grown hg (by simp;omega) fun j hj=>(hO.out.own.lt hj).1
       clear HE hff HR4
       have HIX:=Lib.hid hix
       by_cases h32:c=32
       ·subst h32
        go_wp2_with (at_builtin;refine wpList_append_ownK (Kd:=fun _=>True) rfl (.tmp 42) (.tmp 54) 58 rfl w.heap.size 80 i1 _ 3 Tryz.underlying58 hi1 hz1 hsz1 rfl (by omega) _ lvs.length _ rfl (hO.out.own.alloc _) ⟨w3.heap.size,0,none⟩ 1 1 [.int .i64 ((k:Int)+1),.bool false,.slice fa fs.length fc] rfl (by simp) (by intro j u hj;rcases j with _|_|_|j<;>simp at hj<;>subst hj<;>simp[Addr.add]) (by simp[Value.oneCell']) (by simp) (by simp) (by omega) (by unfold maxLen;omega) (by rw[hby1];omega) (by simp;omega) ?_;intro v6 w6 hown6 hgr6 hloc6;refine Hid.out ?_)
        obtain ⟨f1,f2,f3⟩:=fin.out false v6 w6 rfl hown6 hgr6
        refine Lib.hid ?_
        clear fin hO HF
        go_wp2_with fail
        go_roundw
        case rel=>exact ⟨b,k+1,_,v6,rfl,rfl,by go_num,by omega,by simp;omega,by have:=HC2.out;have:=hsl.out;exact Lib.hid (by omega),f1,f2,f3⟩
        case measure=>simp[strLen,ByteArray.size];have:=HC2.out;omega
       ·by_cases h9:c=9
        ·subst h9
         go_wp2_with (at_builtin;refine wpList_append_ownK (Kd:=fun _=>True) rfl (.tmp 42) (.tmp 54) 58 rfl w.heap.size 80 i1 _ 3 Tryz.underlying58 hi1 hz1 hsz1 rfl (by omega) _ lvs.length _ rfl (hO.out.own.alloc _) ⟨w3.heap.size,0,none⟩ 1 1 [.int .i64 ((k:Int)+1),.bool false,.slice fa fs.length fc] rfl (by simp) (by intro j u hj;rcases j with _|_|_|j<;>simp at hj<;>subst hj<;>simp[Addr.add]) (by simp[Value.oneCell']) (by simp) (by simp) (by omega) (by unfold maxLen;omega) (by rw[hby1];omega) (by simp;omega) ?_;intro v6 w6 hown6 hgr6 hloc6;refine Hid.out ?_)
         obtain ⟨f1,f2,f3⟩:=fin.out false v6 w6 rfl hown6 hgr6
         refine Lib.hid ?_
         clear fin hO HF
         go_wp2_with fail
         go_roundw
         case rel=>exact ⟨b,k+1,_,v6,rfl,rfl,by go_num,by omega,by simp;omega,by have:=HC2.out;have:=hsl.out;exact Lib.hid (by omega),f1,f2,f3⟩
         case measure=>simp[strLen,ByteArray.size];have:=HC2.out;omega
        ·have n32:((c.toNat:Int) != 32)=true:=by
          rw[bne_iff_ne]
          intro e
          exact h32 (UInt8.toNat_inj.1 (by have:(32:UInt8).toNat=32:=rfl;omega))
         have n9:((c.toNat:Int) != 9)=true:=by
          rw[bne_iff_ne]
          intro e
          exact h9 (UInt8.toNat_inj.1 (by have:(9:UInt8).toNat=9:=rfl;omega))
         have he:=Lib.hid (show (c != 32 && c != 9)=true by simp[h32,h9])
         go_wp2_with (at_builtin;refine wpList_append_ownK (Kd:=fun _=>True) rfl (.tmp 42) (.tmp 54) 58 rfl w.heap.size 80 i1 _ 3 Tryz.underlying58 hi1 hz1 hsz1 rfl (by omega) _ lvs.length _ rfl (hO.out.own.alloc _) ⟨w3.heap.size,0,none⟩ 1 1 [.int .i64 ((k:Int)+1),.bool true,.slice fa fs.length fc] rfl (by simp) (by intro j u hj;rcases j with _|_|_|j<;>simp at hj<;>subst hj<;>simp[Addr.add]) (by simp[Value.oneCell']) (by simp) (by simp) (by omega) (by unfold maxLen;omega) (by rw[hby1];omega) (by simp;omega) ?_;intro v6 w6 hown6 hgr6 hloc6;refine Hid.out ?_)
         obtain ⟨f1,f2,f3⟩:=fin.out true v6 w6 he.out hown6 hgr6
         refine Lib.hid ?_
         clear fin hO HF
         go_wp2_with fail
         go_roundw
         case rel=>exact ⟨b,k+1,_,v6,rfl,rfl,by go_num,by omega,by simp;omega,by have:=HC2.out;have:=hsl.out;exact Lib.hid (by omega),f1,f2,f3⟩
         case measure=>simp[strLen,ByteArray.size];have:=HC2.out;omega
    ·have HE:Hid (R=([],k+1,r)):=by
      have:=HR3.out
      rwa [if_pos hr]at this
     have hr1:(r != 0)=true:=by simpa using hr
     go_wp2_with fail
     go_ret3
     exact ⟨_,by rw[HE.out];rfl,by rw[HE.out];exact SlIn.nil_ _ _ _,B2⟩
end Go.Proofs.YtjipjfoambbofaaGreatDoor
end
