/- Plain law: which texts are fractions, as the document reads them. And: Plain law: one number in many forms, as it is read digit by digit. Plain law: two ways to read a literal are one. -/
import Derived.Test.YtehbhghbagaliaaGreatDoorJWalkD
import Derived.Test.YtehbhghbagaliaaGreatDoorJWalkE
set_option linter.unusedVariables false
set_option linter.unusedSimpArgs false
namespace Vic
open Go
def sgnT (neg:Bool) (body:List UInt8):List UInt8:=(if neg then [45]else []) ++ body
theorem sgnT_parts (neg:Bool) (body:List UInt8) (h:neg=false→body.head?≠some 45):fracNeg (sgnT neg body)=neg∧Lib.trimPrefix (sgnT neg body) [45]=body:=by
 cases neg
 ·have h1:=h rfl
  show Lib.hasPrefix body [45]=false∧Lib.trimPrefix body [45]=body
  match body,h1 with
  | [],_=>exact ⟨rfl,rfl⟩
  | c :: r,h1=>
    have hc:c≠45:=fun e=>h1 (by simp[e])
    obtain ⟨t1,t2⟩:=trim_pos r hc
    exact ⟨t2,t1⟩
 ·obtain ⟨t1,t2⟩:=trim_neg body
  exact ⟨t2,t1⟩
theorem cut_inj {a b c d:List UInt8}{x:UInt8}(ha:x∉a) (hc:x∉c) (h:a ++ x :: b=c ++ x :: d):a=c∧b=d:=by
 have h1:=cut_app (c:=x) b ha
 rw[h,cut_app d hc]at h1
 injection h1 with h1 h2
 injection h2 with h2 h3
 exact ⟨h1.symm,h2.symm⟩
theorem sgn_neg {neg:Bool}{n:Nat}(h:sgn neg n<0):neg=true:=by
 cases neg
 ·simp[sgn]at h;omega
 ·rfl
theorem dec_head45 (n:Nat) (r:List UInt8):(Lib.decDigits n ++ r).head?≠some 45:=by
 rcases hx:Lib.decDigits n with _|⟨c,s⟩
 ·exact absurd hx (dec_ne _)
 ·have hc:c≠45:=dig_ne (dec_isDig n c (by rw[hx];simp)) (by decide)
  simp[hc]
theorem fracText_sgnT (q:Rat):fracText q=sgnT (decide (q.num<0)) (Lib.decDigits q.num.natAbs ++ (if q.den=1 then []else 47 :: Lib.decDigits q.den)):=by
 unfold fracText sgnT
 by_cases h:q.num<0
 ·rw[if_pos h,decide_eq_true h];simp
 ·rw[if_neg h,decide_eq_false h];simp
theorem sgnT_inj {p q:Bool}{a b:List UInt8}(ha:a.head?≠some 45) (hb:q=false→b.head?≠some 45) (h:sgnT p a=sgnT q b):p=q∧a=b:=by
 obtain ⟨h1,h2⟩:=sgnT_parts p a (fun _=>ha)
 obtain ⟨h3,h4⟩:=sgnT_parts q b hb
 rw[h]at h1 h2
 exact ⟨h1.symm.trans h3,h2.symm.trans h4⟩
theorem good_found {neg:Bool}{a b:List UInt8}(ha:(47:UInt8)∉a) (hh:neg=false→(a ++ 47 :: b).head?≠some 45) :
 (FracGood (sgnT neg (a ++ 47 :: b))↔GoodNat a∧GoodNat b∧numOf 0 b≠0∧numOf 0 b≠1∧(neg=true→numOf 0 a≠0)∧Nat.gcd (numOf 0 a) (numOf 0 b)=1) ∧
 fracOf (sgnT neg (a ++ 47 :: b))=quo neg (numOf 0 a) (numOf 0 b):=by
 obtain ⟨k1,k2⟩:=sgnT_parts neg (a ++ 47 :: b) hh
 have k3:fracTop (sgnT neg (a ++ 47 :: b))=a:=by unfold fracTop;rw[k2,cut_app b ha]
 have k4:fracBelow (sgnT neg (a ++ 47 :: b))=b:=by unfold fracBelow;rw[k2,cut_app b ha];rfl
 have hof:fracOf (sgnT neg (a ++ 47 :: b))=quo neg (numOf 0 a) (numOf 0 b):=by unfold fracOf;rw[k1,k3,k4]
 refine ⟨⟨fun h=>?_,fun h=>?_⟩,hof⟩
 ·obtain ⟨g1,g2,g3,g4⟩:=h
  rw[k3]at g1
  rw[k4]at g2 g3
  rw[hof]at g4
  have hnum:=quo_num (neg:=neg) (n:=numOf 0 a) g3
  have hden:=quo_den (neg:=neg) (n:=numOf 0 a) g3
  have habs:=quo_natAbs (neg:=neg) (n:=numOf 0 a) g3
  rw[fracText_sgnT]at g4
  obtain ⟨e1,e2⟩:=sgnT_inj (dec_head45 _ _) hh g4
  by_cases hd1:(quo neg (numOf 0 a) (numOf 0 b)).den=1
  ·exfalso
   rw[if_pos hd1,List.append_nil]at e2
   have:(47:UInt8)∈Lib.decDigits (quo neg (numOf 0 a) (numOf 0 b)).num.natAbs:=by rw[e2];simp
   exact dec_no _ (by decide) this
  ·rw[if_neg hd1]at e2
   obtain ⟨e3,e4⟩:=cut_inj (dec_no _ (by decide)) ha e2
   have e5:=congrArg (numOf 0) e3
   have e6:=congrArg (numOf 0) e4
   rw[numOf_dec]at e5 e6
   have hg0:0<Nat.gcd (numOf 0 a) (numOf 0 b):=Nat.gcd_pos_of_pos_right _ (by omega)
   have hg1:Nat.gcd (numOf 0 a) (numOf 0 b)=1:=by
    rw[hden]at e6
    have h7:=Nat.div_mul_cancel (Nat.gcd_dvd_right (numOf 0 a) (numOf 0 b))
    rw[e6]at h7
    have h8:numOf 0 b*Nat.gcd (numOf 0 a) (numOf 0 b)=numOf 0 b*1:=by rw[h7,Nat.mul_one]
    exact Nat.eq_of_mul_eq_mul_left (by omega) h8
   refine ⟨g1,g2,g3,fun h1=>hd1 (by rw[hden,hg1,h1]),fun hn h0=>?_,hg1⟩
   rw[hn]at e1
   have h9:=of_decide_eq_true e1
   have h10:=quo_num (neg:=true) (n:=numOf 0 a) g3
   rw[h10,h0]at h9
   simp[sgn]at h9
 ·obtain ⟨g1,g2,g3,g4,g5,g6⟩:=h
  refine ⟨by rw[k3];exact g1,by rw[k4];exact g2,by rw[k4];exact g3,?_⟩
  rw[hof,fracText_eq neg (numOf 0 a) (numOf 0 b) (by rw[quo_num g3,g6,Nat.div_one]) g5 (by rw[quo_den g3,g6,Nat.div_one]),dec_numOf g1.1,dec_numOf g2.1,if_neg g4]
  unfold sgnT;simp
theorem good_whole {neg:Bool}{a:List UInt8}(ha:(47:UInt8)∉a) (hh:neg=false→a.head?≠some 45) :
 (FracGood (sgnT neg a)↔GoodNat a∧(neg=true→numOf 0 a≠0))∧fracOf (sgnT neg a)=quo neg (numOf 0 a) 1:=by
 obtain ⟨k1,k2⟩:=sgnT_parts neg a hh
 have k3:fracTop (sgnT neg a)=a:=by unfold fracTop;rw[k2,cut_none ha]
 have k4:fracBelow (sgnT neg a) = [49]:=by unfold fracBelow;rw[k2,cut_none ha];rfl
 have h49:numOf 0 [49]=1:=by rw[← dec_one,numOf_dec]
 have hof:fracOf (sgnT neg a)=quo neg (numOf 0 a) 1:=by unfold fracOf;rw[k1,k3,k4,h49]
 have hden:(quo neg (numOf 0 a) 1).den=1:=by rw[quo_den (by omega),Nat.gcd_one_right]
 have hnum:(quo neg (numOf 0 a) 1).num=sgn neg (numOf 0 a):=by rw[quo_num (by omega),Nat.gcd_one_right,Nat.div_one]
 refine ⟨⟨fun h=>?_,fun h=>?_⟩,hof⟩
 ·obtain ⟨g1,g2,g3,g4⟩:=h
  rw[k3]at g1
  refine ⟨g1,fun hn h0=>?_⟩
  rw[hof,fracText_sgnT]at g4
  obtain ⟨e1,e2⟩:=sgnT_inj (dec_head45 _ _) hh g4
  rw[hn]at e1
  have h9:=of_decide_eq_true e1
  rw[hn]at hnum
  rw[hnum,h0]at h9
  simp[sgn]at h9
 ·obtain ⟨g1,g5⟩:=h
  refine ⟨by rw[k3];exact g1,by rw[k4];exact ⟨by rw[← dec_one];exact dec_canon _,by decide⟩,by rw[k4,h49];decide,?_⟩
  rw[hof,fracText_eq neg (numOf 0 a) 1 hnum g5 hden,dec_numOf g1.1,if_pos rfl,List.append_nil]
  rfl
end Vic
set_option linter.unusedVariables false
set_option linter.unusedSimpArgs false
namespace Vic
open Go
abbrev LitS:=Nat × Nat × Nat × Nat
def litStep (s:LitS) (c:UInt8):LitS:=if c=46 then (s.1,s.2.1,s.2.2.1+1,s.2.2.2)else (s.1*10+(c.toNat - 48),s.2.1+1,s.2.2.1,s.2.2.2+s.2.2.1)
def litSt (l:List UInt8):LitS:=l.foldl litStep (0,0,0,0)
theorem litSt_nil:litSt []=(0,0,0,0):=rfl
theorem litSt_snoc (l:List UInt8) (c:UInt8):litSt (l ++ [c])=litStep (litSt l) c:=by unfold litSt;rw[List.foldl_append];rfl
theorem litSt_digs (l:List UInt8) (h:∀ c∈l,isDig c=true):∀ (n d p b:Nat),l.foldl litStep (n,d,p,b)=(numOf n l,d+l.length,p,b+p*l.length):=by
 induction l with
 | nil=>intro n d p b;simp[numOf_nil]
 | cons c r ih=>
   intro n d p b
   have hc:c≠46:=fun e=>by have:=h c List.mem_cons_self;rw[e]at this;revert this;decide
   rw[List.foldl_cons,litStep,if_neg hc,ih (fun x hx=>h x (List.mem_cons_of_mem _ hx)),numOf_cons]
   simp only[List.length_cons,Nat.mul_add,Nat.mul_one]
   congr 2
   ·omega
   ·congr 1;omega
theorem litSt_form (a b:List UInt8) (dot:Bool) (hdot:dot=false→b = []) (ha:∀ c∈a,isDig c=true) (hb:∀ c∈b,isDig c=true) :
 litSt (a ++ (if dot then 46 :: b else []))=(numOf 0 (a ++ b),(a ++ b).length,(if dot then 1 else 0),b.length):=by
 unfold litSt
 rw[List.foldl_append,litSt_digs a ha]
 cases dot
 ·rw[hdot rfl];simp
 ·show (46 :: b).foldl litStep (numOf 0 a,0+a.length,0,0+0*a.length)=_
  rw[List.foldl_cons,litStep,if_pos rfl,litSt_digs b hb,numOf_append]
  simp
theorem litSt_bound (l:List UInt8) (h:∀ c∈l,isDig c=true∨c=46):∀ k,k≤l.length→(litSt (l.take k)).1<10 ^ k∧(litSt (l.take k)).2.1≤k∧(litSt (l.take k)).2.2.1≤k∧(litSt (l.take k)).2.2.2≤k*l.length:=by
 intro k
 induction k with
 | zero=>intro _;simp[litSt_nil]
 | succ k ih=>
   intro hk
   obtain ⟨i1,i2,i3,i4⟩:=ih (by omega)
   have hkl:k<l.length:=by omega
   rw[List.take_succ_eq_append_getElem hkl,litSt_snoc]
   have hc:=h l[k] (List.getElem_mem hkl)
   generalize l[k]=c at *
   generalize litSt (l.take k)=s at *
   unfold litStep
   by_cases e:c=46
   ·rw[if_pos e]
    refine ⟨?_,by dsimp only;omega,by dsimp only;omega,?_⟩
    ·dsimp only;rw[Nat.pow_succ];omega
    ·dsimp only;rw[Nat.add_mul];omega
   ·rw[if_neg e]
    have hd:=isDig_iff.1 (hc.resolve_right e)
    refine ⟨?_,by dsimp only;omega,by dsimp only;omega,?_⟩
    ·dsimp only;rw[Nat.pow_succ];omega
    ·dsimp only;rw[Nat.add_mul];omega
theorem litSt_step {l:List UInt8}{k:Nat}{c:UInt8}(h:l[k]?=some c):litSt (l.take (k+1))=litStep (litSt (l.take k)) c:=by
 have hk:k<l.length:=by
  rcases Nat.lt_or_ge k l.length with h1|h1
  ·exact h1
  ·rw[List.getElem?_eq_none h1]at h;cases h
 rw[List.take_succ_eq_append_getElem hk,litSt_snoc]
 rw[List.getElem?_eq_getElem hk]at h
 rw[Option.some.inj h]
theorem fracText_int (x:Int):fracText (x:Rat)=sgnT (decide (x<0)) (Lib.decDigits x.natAbs):=by
 rw[fracText_sgnT]
 simp
 rfl
theorem quo_zero_sgn (ng:Bool) (n d:Nat):quo (ng && decide (n≠0)) n d=quo ng n d:=by
 by_cases h:n=0
 ·subst h;cases ng<;>rfl
 ·rw[decide_eq_true h,Bool.and_true]
def qv (neg:Bool) (n:Nat) (p:Int):Rat:=if 0≤p then quo neg (n*10 ^ p.toNat) 1 else quo neg n (10 ^ (-p).toNat)
theorem qv_quo (neg:Bool) (n:Nat) (p:Int):qv neg n p=quo neg (n*10 ^ p.toNat) (10 ^ (-p).toNat):=by
 unfold qv
 split
 ·rw[show (-p).toNat=0 by omega,Nat.pow_zero]
 ·rw[show p.toNat=0 by omega,Nat.pow_zero,Nat.mul_one]
theorem pow10_len {p:Nat}(h:p≤200):sz (10 ^ p)≤21:=digs_length_le (B:=4294967296) (by omega) (Nat.lt_of_le_of_lt (Nat.pow_le_pow_right (by omega) h) (by decide +kernel))
theorem num12_len {n:Nat}(h:n<10 ^ 12):sz n≤2:=digs_length_le (B:=4294967296) (by omega) (Nat.lt_trans h (by decide +kernel))
theorem qv_fits {neg:Bool}{n:Nat}{p:Int}(hn:n<10 ^ 12) (h1 : -200≤p) (h2:p≤200):Fits 23 (qv neg n p):=by
 rw[qv_quo]
 refine fits_quo (Nat.ne_of_gt (Nat.pow_pos (by omega))) (Nat.le_trans (sz_mul _ _) ?_) (Nat.le_trans (pow10_len (by omega)) (by omega))
 have e1:=num12_len hn
 have e2:=pow10_len (p:=p.toNat) (by omega)
 omega
end Vic
set_option linter.unusedVariables false
set_option linter.unusedSimpArgs false
namespace Vic
open Go
def okC (c:UInt8):Bool:=isDig c || c == 46
def isE (c:UInt8):Bool:=c == 101 || c == 69
theorem isE_ok {c:UInt8}(h:isE c=true):okC c=false:=by
 unfold isE at h
 rcases Bool.or_eq_true _ _▸h with h|h
 ·rw[beq_iff_eq.1 h];decide
 ·rw[beq_iff_eq.1 h];decide
theorem okC_iff {c:UInt8}:okC c=true↔isDig c=true∨c=46:=by simp[okC]
def expD (neg:Bool) (t:List UInt8):Option Int:=if t≠[]∧t.length≤3∧(∀ c∈t,isDig c=true)∧numOf 0 t≤100 then some (sgn neg (numOf 0 t))else none
def expo:List UInt8→Option Int
 | []=>none
 | c :: r=>if c=43 then expD false r else if c=45 then expD true r else expD false (c :: r)
def rexp:List UInt8→Option Int
 | []=>some 0
 | c :: r=>if isE c=true then expo r else none
def mantOk (a b:List UInt8):Prop:=a ++ b≠[]∧(∀ c∈a,isDig c=true)∧(∀ c∈b,isDig c=true)
instance (a b:List UInt8):Decidable (mantOk a b):=inferInstanceAs (Decidable (_∧_∧_))
def mant (m:List UInt8) (e:Int):Option (Nat × Int):=
 if mantOk (Lib.cut m [46]).1 (Lib.cut m [46]).2.1 then some (numOf 0 ((Lib.cut m [46]).1 ++ (Lib.cut m [46]).2.1),e - (Lib.cut m [46]).2.1.length)else none
def litBody (t:List UInt8):Option (Nat × Int):=
 if Lib.indexAny t [101,69]<0 then mant t 0 else (expo (t.drop ((Lib.indexAny t [101,69]).toNat+1))).bind (mant (t.take (Lib.indexAny t [101,69]).toNat))
def refBody (t:List UInt8):Option (Nat × Int):=
 if (litSt (t.takeWhile okC)).2.1=0∨1<(litSt (t.takeWhile okC)).2.2.1 then none else (rexp (t.dropWhile okC)).map fun e=>((litSt (t.takeWhile okC)).1,e - (litSt (t.takeWhile okC)).2.2.2)
theorem indexAny_spec (t:List UInt8):(Lib.indexAny t [101,69]=-1∧∀ c∈t,isE c=false)∨(∃ m c x,t=m ++ c :: x∧isE c=true∧(∀ b∈m,isE b=false)∧Lib.indexAny t [101,69]=(m.length:Int)):=by
 induction t with
 | nil=>left;exact ⟨rfl,fun c h=>by cases h⟩
 | cons c r ih=>
   by_cases hc:isE c=true
   ·right
    refine ⟨[],c,r,rfl,hc,fun b h=>(by cases h),?_⟩
    have h1:([101,69]:List UInt8).contains c=true:=by
     unfold isE at hc
     rcases Bool.or_eq_true _ _▸hc with h|h
     ·rw[beq_iff_eq.1 h];decide
     ·rw[beq_iff_eq.1 h];decide
    rw[Lib.indexAny,h1];rfl
   ·have hc':isE c=false:=by simpa using hc
    have h1:([101,69]:List UInt8).contains c=false:=by
     unfold isE at hc'
     have:=Bool.or_eq_false_iff.1 hc'
     simp[beq_eq_false_iff_ne.1 this.1,beq_eq_false_iff_ne.1 this.2]
    rcases ih with ⟨h2,h3⟩|⟨m,d,x,rfl,hd,hm,h2⟩
    ·left
     refine ⟨by rw[Lib.indexAny,h1,h2];rfl,fun b hb=>?_⟩
     rcases List.mem_cons.1 hb with rfl|hb
     ·exact hc'
     ·exact h3 b hb
    ·right
     refine ⟨c :: m,d,x,rfl,hd,fun b hb=>?_,?_⟩
     ·rcases List.mem_cons.1 hb with rfl|hb
      ·exact hc'
      ·exact hm b hb
     ·have h4:(((m.length:Nat):Int) == -1)=false:=by rw[beq_eq_false_iff_ne];omega
      rw[Lib.indexAny,h1,h2,h4]
      simp
theorem pts_count (l:List UInt8):∀ n d p b,(l.foldl litStep (n,d,p,b)).2.2.1=p+l.count 46:=by
 induction l with
 | nil=>intro n d p b;simp
 | cons c r ih=>
   intro n d p b
   rw[List.foldl_cons,litStep]
   by_cases h:c=46
   ·rw[if_pos h,ih];subst h;simp;omega
   ·rw[if_neg h,ih,List.count_cons_of_ne (by simpa using h)]
theorem mant_ok (m:List UInt8) (e:Int) (h:∀ c∈m,okC c=true):mant m e=if (litSt m).2.1=0∨1<(litSt m).2.2.1 then none else some ((litSt m).1,e - (litSt m).2.2.2):=by
 unfold mant
 by_cases h46:(46:UInt8)∈m
 ·obtain ⟨a,b,rfl,ha⟩:=List.eq_append_cons_of_mem h46
  rw[cut_app b ha]
  have hda:∀ c∈a,isDig c=true:=fun c hc=>by
   rcases okC_iff.1 (h c (List.mem_append.2 (.inl hc)))with h1|h1
   ·exact h1
   ·subst h1;exact absurd hc ha
  by_cases hb:(46:UInt8)∈b
  ·have hnb:¬ mantOk a b:=fun h1=>by have:=h1.2.2 46 hb;revert this;decide
   have hp:1<(litSt (a ++ 46 :: b)).2.2.1:=by
    unfold litSt
    rw[pts_count,List.count_append,List.count_cons_self]
    have:=List.count_pos_iff.2 hb
    omega
   rw[if_neg hnb,if_pos (.inr hp)]
  ·have hdb:∀ c∈b,isDig c=true:=fun c hc=>by
    rcases okC_iff.1 (h c (List.mem_append.2 (.inr (List.mem_cons_of_mem _ hc))))with h1|h1
    ·exact h1
    ·subst h1;exact absurd hc hb
   have hst:litSt (a ++ 46 :: b)=(numOf 0 (a ++ b),(a ++ b).length,1,b.length):=litSt_form a b true (fun h=>by cases h) hda hdb
   rw[hst]
   by_cases he:a ++ b = []
   ·rw[if_neg (fun h1=>h1.1 he),if_pos (.inl (by simp[he]))]
   ·rw[if_pos ⟨he,hda,hdb⟩,if_neg (by
     have:(a ++ b).length≠0:=fun h1=>he (List.eq_nil_of_length_eq_zero h1)
     dsimp only;omega)]
 ·rw[cut_none h46]
  have hd:∀ c∈m,isDig c=true:=fun c hc=>by
   rcases okC_iff.1 (h c hc)with h1|h1
   ·exact h1
   ·subst h1;exact absurd hc h46
  have hst:litSt m=(numOf 0 m,m.length,0,0):=by
   have:=litSt_form m [] false (fun _=>rfl) hd (fun c hc=>by cases hc)
   simpa using this
  rw[hst]
  by_cases he:m = []
  ·subst he;rw[if_neg (fun h1=>h1.1 rfl),if_pos (.inl rfl)]
  ·rw[if_pos ⟨by simpa using he,hd,fun c hc=>by cases hc⟩,if_neg (by
    have:m.length≠0:=fun h1=>he (List.eq_nil_of_length_eq_zero h1)
    dsimp only;omega)]
   simp
theorem mant_all {m:List UInt8}{e:Int}{r:Nat × Int}(h:mant m e=some r):∀ c∈m,okC c=true:=by
 unfold mant at h
 split at h
 case isFalse=>cases h
 case isTrue hk=>
  intro c hc
  by_cases h46:(46:UInt8)∈m
  ·obtain ⟨a,b,rfl,ha⟩:=List.eq_append_cons_of_mem h46
   rw[cut_app b ha]at hk
   rcases List.mem_append.1 hc with h1|h1
   ·exact okC_iff.2 (.inl (hk.2.1 c h1))
   ·rcases List.mem_cons.1 h1 with h2|h2
    ·exact okC_iff.2 (.inr h2)
    ·exact okC_iff.2 (.inl (hk.2.2 c h2))
  ·rw[cut_none h46]at hk
   exact okC_iff.2 (.inl (hk.2.1 c hc))
theorem mant_none {m:List UInt8}{e:Int}{c:UInt8}(hc:c∈m) (h:okC c=false):mant m e=none:=by
 rcases hx:mant m e with _|r
 ·rfl
 ·have:=mant_all hx c hc
  rw[h]at this;cases this
theorem first_bad (m:List UInt8):(∀ c∈m,okC c=true)∨∃ a c r,m=a ++ c :: r∧okC c=false∧∀ b∈a,okC b=true:=by
 induction m with
 | nil=>left;intro c h;cases h
 | cons c r ih=>
   by_cases hc:okC c=true
   ·rcases ih with h|⟨a,d,x,rfl,hd,ha⟩
    ·left;intro b hb
     rcases List.mem_cons.1 hb with rfl|hb
     ·exact hc
     ·exact h b hb
    ·right
     refine ⟨c :: a,d,x,rfl,hd,fun b hb=>?_⟩
     rcases List.mem_cons.1 hb with rfl|hb
     ·exact hc
     ·exact ha b hb
   ·right;exact ⟨[],c,r,rfl,by simpa using hc,fun b h=>by cases h⟩
theorem while_app {a:List UInt8}{c:UInt8}(r:List UInt8) (ha:∀ b∈a,okC b=true) (hc:okC c=false):(a ++ c :: r).takeWhile okC=a∧(a ++ c :: r).dropWhile okC=c :: r:=by
 constructor
 ·rw[List.takeWhile_append_of_pos ha,List.takeWhile_cons_of_neg (by simp[hc]),List.append_nil]
 ·rw[List.dropWhile_append_of_pos ha,List.dropWhile_cons_of_neg (by simp[hc])]
theorem while_all {a:List UInt8}(ha:∀ b∈a,okC b=true):a.takeWhile okC=a∧a.dropWhile okC = []:=by
 have h1:=List.takeWhile_append_of_pos (l₂:=[]) ha
 have h2:=List.dropWhile_append_of_pos (l₂:=[]) ha
 simp at h1 h2
 constructor
 ·simpa using h1
 ·simpa using h2
theorem body_eq (t:List UInt8):litBody t=refBody t:=by
 rcases indexAny_spec t with ⟨h1,h2⟩|⟨m,c,x,rfl,hc,hm,h1⟩
 ·unfold litBody
  rw[h1,if_pos (by omega)]
  rcases first_bad t with h3|⟨a,d,r,rfl,hd,ha⟩
  ·obtain ⟨k1,k2⟩:=while_all h3
   unfold refBody
   rw[k1,k2,mant_ok t 0 h3]
   rfl
  ·obtain ⟨k1,k2⟩:=while_app r ha hd
   have hde:isE d=false:=h2 d (by simp)
   rw[mant_none (c:=d) (by simp) hd]
   unfold refBody
   rw[k1,k2]
   simp[rexp,hde]
 ·unfold litBody
  rw[h1,if_neg (by omega)]
  have e1:(m ++ c :: x).take ((m.length:Int)).toNat=m:=by simp
  have e2:(m ++ c :: x).drop (((m.length:Int)).toNat+1)=x:=by simp
  rw[e1,e2]
  rcases first_bad m with h3|⟨a,d,r,rfl,hd,ha⟩
  ·obtain ⟨k1,k2⟩:=while_app x h3 (isE_ok hc)
   unfold refBody
   rw[k1,k2]
   have e3:rexp (c :: x)=expo x:=by simp[rexp,hc]
   rw[e3]
   rcases expo x with _|e
   ·simp
   ·simp only[Option.bind_some,Option.map_some]
    exact mant_ok m e h3
  ·have hde:isE d=false:=hm d (by simp)
   have e4:(a ++ d :: r) ++ c :: x=a ++ d :: (r ++ c :: x):=by simp
   obtain ⟨k1,k2⟩:=while_app (r ++ c :: x) ha hd
   have e5:(expo x).bind (mant (a ++ d :: r))=none:=by
    rcases expo x with _|e
    ·rfl
    ·simp only[Option.bind_some];exact mant_none (c:=d) (by simp) hd
   rw[e5]
   unfold refBody
   rw[e4,k1,k2]
   simp[rexp,hde]
theorem trimLeft_num (l:List UInt8):numOf 0 (Lib.trimLeftB l 48)=numOf 0 l:=by
 induction l with
 | nil=>rfl
 | cons c r ih=>
   by_cases h:c=48
   ·subst h
    have e:Lib.trimLeftB (48 :: r) 48=Lib.trimLeftB r 48:=by simp[Lib.trimLeftB]
    rw[e,ih,numOf_cons];rfl
   ·have e:Lib.trimLeftB (c :: r) 48=c :: r:=by simp[Lib.trimLeftB,h]
    rw[e]
theorem trimLeft_can (l:List UInt8) (h:∀ c∈l,isDig c=true):Lib.trimLeftB l 48 = []∨(Canon (Lib.trimLeftB l 48)∧(Lib.trimLeftB l 48).length≤l.length):=by
 induction l with
 | nil=>left;rfl
 | cons c r ih=>
   by_cases hc:c=48
   ·subst hc
    have e:Lib.trimLeftB (48 :: r) 48=Lib.trimLeftB r 48:=by simp[Lib.trimLeftB]
    rw[e]
    rcases ih (fun d hd=>h d (List.mem_cons_of_mem _ hd))with h1|⟨h1,h2⟩
    ·exact .inl h1
    ·exact .inr ⟨h1,by simp;omega⟩
   ·have e:Lib.trimLeftB (c :: r) 48=c :: r:=by simp[Lib.trimLeftB,hc]
    rw[e]
    exact .inr ⟨⟨by simp,h,.inr (by simpa using hc)⟩,Nat.le_refl _⟩
def neg0 (s:List UInt8):Bool:=s.head? == some 45
def strip:List UInt8→List UInt8
 | []=>[]
 | c :: r=>if c=45∨c=43 then r else c :: r
theorem strip_len (s:List UInt8):(strip s).length≤s.length:=by
 rcases s with _|⟨c,r⟩
 ·exact Nat.le_refl _
 ·rw[show strip (c :: r)=(if c=45∨c=43 then r else c :: r)from rfl]
  split
  ·simp
  ·exact Nat.le_refl _
theorem strip_neg (s:List UInt8):Lib.hasPrefix s [45]=neg0 s∧Lib.trimPrefix s [45]=(if neg0 s then strip s else s)∧(neg0 s=false→Lib.trimPrefix s [43]=strip s):=by
 rcases s with _|⟨c,r⟩
 ·exact ⟨rfl,rfl,fun _=>rfl⟩
 ·by_cases h45:c=45
  ·subst h45
   exact ⟨(trim_neg r).2,by rw[(trim_neg r).1];simp[neg0,strip],fun h=>by simp[neg0]at h⟩
  ·refine ⟨by rw[(trim_pos r h45).2];simp[neg0,h45],by rw[(trim_pos r h45).1];simp[neg0,h45],fun _=>?_⟩
   by_cases h43:c=43
   ·subst h43;simp[Lib.trimPrefix,Lib.hasPrefix,pre_one,strip]
   ·simp[Lib.trimPrefix,Lib.hasPrefix,pre_one,Ne.symm h43,strip,h45,h43]
theorem litSt_behind (l:List UInt8):∀ k,k≤l.length→(litSt (l.take k)).2.2.2≤(litSt (l.take k)).2.2.1*(litSt (l.take k)).2.1:=by
 intro k
 induction k with
 | zero=>intro _;exact Nat.le_refl _
 | succ k ih=>
   intro hk
   have h1:=ih (by omega)
   rw[litSt_step (List.getElem?_eq_getElem (by omega))]
   obtain ⟨⟨n,d,p,b⟩,hx⟩:∃ x,x=litSt (l.take k):=⟨_,rfl⟩
   rw[← hx]at h1 ⊢
   have h1:b≤p*d:=h1
   unfold litStep
   split
   ·show b≤(p+1)*d
    rw[Nat.add_mul,Nat.one_mul];omega
   ·show b+p≤p*(d+1)
    rw[Nat.mul_add,Nat.mul_one];omega
theorem expD_bound {ng:Bool}{t:List UInt8}{v:Int}(h:expD ng t=some v) : -100≤v∧v≤100:=by
 unfold expD at h
 split at h
 case isFalse=>cases h
 case isTrue hk=>
  have hv:sgn ng (numOf 0 t)=v:=Option.some.inj h
  rw[← hv]
  have:=hk.2.2.2
  unfold sgn;split<;>omega
theorem expo_bound {x:List UInt8}{v:Int}(h:expo x=some v) : -100≤v∧v≤100:=by
 rcases x with _|⟨c,r⟩
 ·cases h
 ·have h:(if c=43 then expD false r else if c=45 then expD true r else expD false (c :: r))=some v:=h
  split at h
  ·exact expD_bound h
  ·split at h
   ·exact expD_bound h
   ·exact expD_bound h
theorem rexp_bound {x:List UInt8}{v:Int}(h:rexp x=some v) : -100≤v∧v≤100:=by
 rcases x with _|⟨c,r⟩
 ·have h1:(0:Int)=v:=Option.some.inj h
  omega
 ·have h:(if isE c=true then expo r else none)=some v:=h
  split at h
  ·exact expo_bound h
  ·cases h
theorem strip_parts (X:List UInt8):∃ (sg:Bool),(sg=false→strip X=X∧neg0 X=false∧(X = []∨∃ g0:0<(⟨X.toArray⟩:ByteArray).size,X.isEmpty=false∧((((⟨X.toArray⟩:ByteArray)[0]'g0).toNat:Int) == 43)=false∧((((⟨X.toArray⟩:ByteArray)[0]'g0).toNat:Int) == 45)=false)) ∧
 (sg=true→X.isEmpty=false∧1≤X.length∧(⟨X.toArray⟩:ByteArray).extract 1 X.length=⟨(strip X).toArray⟩∧∃ g0:0<(⟨X.toArray⟩:ByteArray).size,((((⟨X.toArray⟩:ByteArray)[0]'g0).toNat:Int) == 43)=(!neg0 X)∧((((⟨X.toArray⟩:ByteArray)[0]'g0).toNat:Int) == 45)=neg0 X):=by
 rcases X with _|⟨c,r⟩
 ·exact ⟨false,fun _=>⟨rfl,rfl,.inl rfl⟩,fun h=>by cases h⟩
 ·have h0:0<(⟨(c :: r).toArray⟩:ByteArray).size:=by show 0<(c :: r).toArray.size;simp
  by_cases h43:c=43
  ·subst h43
   exact ⟨true,fun h=>(by cases h),fun _=>⟨rfl,by simp,by rw[bytes_drop _ _ _ rfl];simp[strip],h0,rfl,rfl⟩⟩
  ·by_cases h45:c=45
   ·subst h45
    exact ⟨true,fun h=>(by cases h),fun _=>⟨rfl,by simp,by rw[bytes_drop _ _ _ rfl];simp[strip],h0,rfl,rfl⟩⟩
   ·refine ⟨false,fun _=>⟨by simp[strip,h43,h45],by simp[neg0,h45],.inr ⟨h0,rfl,?_,?_⟩⟩,fun h=>(by cases h)⟩
    ·have h2:c.toNat≠43:=fun e=>h43 (UInt8.toNat_inj.1 e)
     show ((c.toNat:Int) == 43)=false
     rw[beq_eq_false_iff_ne];omega
    ·have h2:c.toNat≠45:=fun e=>h45 (UInt8.toNat_inj.1 e)
     show ((c.toNat:Int) == 45)=false
     rw[beq_eq_false_iff_ne];omega
end Vic
