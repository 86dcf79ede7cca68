/- Lines laid one by one, and the core's reader over them. No program in sight. -/
import Derived.Test.YtbdfhnelmojbpaaGreatDoorKaw
import Derived.Test.YtbdfhnelmojbpaaGreatDoorKap
import Derived.Test.YtbdfhnelmojbpaaGreatDoorKav
import Derived.Test.YtbdfhnelmojbpaaGreatDoorKba
import Derived.Test.YtbdfhnelmojbpaaGreatDoorKax
import Derived.Test.YtbdfhnelmojbpaaGreatDoorProg
import Derived.WalkKit
import Derived.Test.YtbdfhnelmojbpaaGreatDoorKaq
import Derived.Laws.Rows
import Derived.Laws.Tables
set_option linter.unusedVariables false
set_option linter.unusedSimpArgs false
section
namespace Vic
open Go
def dec2 (i:Nat):Txt:=if i<10 then [UInt8.ofNat (48+i)]else [UInt8.ofNat (48+i / 10),UInt8.ofNat (48+i % 10)]
theorem dec2_is {i:Nat}(h:i<100):Lib.decDigits i=dec2 i:=by
 unfold dec2
 by_cases h1:i<10
 ·rw[if_pos h1,dec_small h1]
 ·rw[if_neg h1,dec_big (by omega),dec_small (by omega)];rfl
theorem fracText_int7 (z:Int):fracText (z:Rat)=(if z<0 then [45]else []) ++ Lib.decDigits z.natAbs:=by
 unfold fracText
 rw[show ((z:Rat)).num=z from rfl,show ((z:Rat)).den=1 from rfl,if_pos rfl,List.append_nil]
def intT (z:Int):Txt:=(if z<0 then [45]else []) ++ dec2 z.natAbs
theorem intT_is {z:Int}(h1 : -100<z) (h2:z<100):fracText (z:Rat)=intT z:=by
 rw[fracText_int7,dec2_is (by omega)];rfl
theorem dec2_len (i:Nat):1≤(dec2 i).length∧(dec2 i).length≤2:=by
 unfold dec2;split<;>simp
end Vic
end
section
namespace Vic
open Go
theorem intT_good {z:Int}(h1 : -100<z) (h2:z<100):FracGood (intT z)∧fracOf (intT z)=(z:Rat):=by
 have e:=intT_is h1 h2
 rw[← e]
 refine fracGood_text _ ?_ ?_
 ·rw[show ((z:Rat)).num=z from rfl,dec2_is (by omega)]
  have:=dec2_len z.natAbs;omega
 ·rw[show ((z:Rat)).den=1 from rfl,dec2_is (by omega)]
  have:=dec2_len 1;omega
theorem good0:FracGood [48]∧fracOf [48]=0:=by
 have:=intT_good (z:=0) (by omega) (by omega)
 exact this
theorem good1:FracGood [49]∧fracOf [49]=1:=by
 have:=intT_good (z:=1) (by omega) (by omega)
 exact this
open Classical in
theorem numberM_of {s:Txt}(h:FracGood s):numberM s=true:=by unfold numberM;exact decide_eq_true h
theorem maybeM_of {s:Txt}(h:FracGood s):maybeM s=true:=by unfold maybeM;rw[numberM_of h,Bool.or_true]
theorem maybeM_nil:maybeM []=true:=by unfold maybeM;rfl
end Vic
end
section
namespace Vic
open Go
def tsCol (i:Nat):ColM:=⟨120 :: dec2 i,[48],[49],dec2 i,false⟩
def tsRow (a b i:Nat):RowM:=⟨114 :: dec2 i,1,if b≤i then [(0,[49]),((a:Int),[50])]else [],dec2 i,[]⟩
def tsRows (m a b:Nat):List RowM:=(List.range m).map (tsRow a b)
def tsCols (n:Nat):List ColM:=(List.range n).map tsCol
def tsCore (n m a b:Nat):CoreM:=⟨[65],[111],tsRows m a b,tsCols n⟩
def tsPs (a b:Nat):List PerM:=[([120,48],[111],[111,110,101]),(120 :: dec2 a,114 :: dec2 b,[116,119,111])]
def tsChk (n m a b:Nat):Bool:=
 namedM (tsCore n m a b) && mayTime (tsCore n m a b) (tsPs a b) == 0 && cutCol (tsCore n m a b) (tsPs a b) == ((a:Nat):Int) && cutRow (tsCore n m a b) (tsPs a b) == ((b:Nat):Int) &&
 !((tsCore n m a b).rows.take b).any (fun r=>r.coef.any fun x=>decide ((a:Int)≤x.1)) && !((tsCore n m a b).cols.drop a).any (fun x=>x.int) && !((tsCore n m a b).cols.take a).any openM
theorem ts_all:((List.range 7).all fun n=>(List.range 6).all fun m=>(List.range 6).all fun a=>(List.range 5).all fun b=>!(decide (2≤n) && decide (1≤m) && decide (a<n) && decide (1≤a) && decide (b<m)) || tsChk n m a b)=true:=by decide +kernel
theorem ts_dec (n:Nat) (hn:n<7) (hn2:2≤n) (m:Nat) (hm:m<6) (hm1:1≤m) (a:Nat) (ha:a<n) (ha1:1≤a) (b:Nat) (hb:b<m) :
 namedM (tsCore n m a b)=true∧mayTime (tsCore n m a b) (tsPs a b)=0∧cutCol (tsCore n m a b) (tsPs a b)=(a:Nat)∧cutRow (tsCore n m a b) (tsPs a b)=(b:Nat) ∧
 ((tsCore n m a b).rows.take b).any (fun r=>r.coef.any fun x=>decide ((a:Int)≤x.1))=false∧((tsCore n m a b).cols.drop a).any (fun x=>x.int)=false∧((tsCore n m a b).cols.take a).any openM=false:=by
 have h1:=List.all_eq_true.1 ts_all n (List.mem_range.2 hn)
 have h2:=List.all_eq_true.1 h1 m (List.mem_range.2 hm)
 have h3:=List.all_eq_true.1 h2 a (List.mem_range.2 (by omega))
 have h4:=List.all_eq_true.1 h3 b (List.mem_range.2 (by omega))
 rw[decide_eq_true hn2,decide_eq_true hm1,decide_eq_true ha,decide_eq_true ha1,decide_eq_true hb]at h4
 simp only[Bool.and_self,Bool.not_true,Bool.false_or]at h4
 unfold tsChk at h4
 simp only[Bool.and_eq_true,beq_iff_eq,Bool.not_eq_true']at h4
 obtain ⟨⟨⟨⟨⟨⟨k1,k2⟩,k3⟩,k4⟩,k5⟩,k6⟩,k7⟩:=h4
 exact ⟨k1,k2,k3,k4,k5,k6,k7⟩
structure TsIn (n m a b:Nat):Prop where
 n1:2≤n
 n2:n≤6
 m1:1≤m
 m2:m≤5
 a1:1≤a
 a2:a<n
 b2:b<m
theorem decT_good {i:Nat}(h:i<100):FracGood (dec2 i)∧fracOf (dec2 i)=((i:Int):Rat):=by
 have e:intT (i:Int)=dec2 i:=by
  unfold intT
  rw[if_neg (by omega),Int.natAbs_natCast,List.nil_append]
 rw[← e]
 exact intT_good (by omega) (by omega)
theorem good2:FracGood [50]∧fracOf [50]=2:=by
 have:=intT_good (z:=2) (by omega) (by omega)
 exact this
theorem ts_may {n m a b:Nat}(h:TsIn n m a b):mayCore (tsCore n m a b)=0:=by
 obtain ⟨n1,n2,m1,m2,a1,a2,b2⟩:=h
 obtain ⟨d1,_⟩:=ts_dec n (by omega) n1 m (by omega) m1 a a2 a1 b b2
 have g0:=good0;have g1:=good1;have g2:=good2
 have hr:∀ r∈tsRows m a b,numberM r.rhs=true∧maybeM r.range=true∧coefsFrom (-1) r.coef (tsCols n).length=true∧r.kind=1:=fun r hr=>by
  unfold tsRows at hr
  obtain ⟨i,hi,rfl⟩:=List.mem_map.1 hr
  rw[List.mem_range]at hi
  refine ⟨numberM_of (decT_good (by omega)).1,maybeM_nil,?_,rfl⟩
  simp only[tsRow]
  split
  ·simp only[coefsFrom,numberM_of g1.1,numberM_of g2.1,g1.2,g2.2]
   simp[tsCols]
   omega
  ·rfl
 have hc:∀ x∈tsCols n,numberM x.cost=true∧maybeM x.low=true∧maybeM x.up=true:=fun x hx=>by
  unfold tsCols at hx
  obtain ⟨i,hi,rfl⟩:=List.mem_map.1 hx
  rw[List.mem_range]at hi
  exact ⟨numberM_of (decT_good (by omega)).1,maybeM_of g0.1,maybeM_of g1.1⟩
 unfold mayCore
 rw[if_neg (by rw[d1];decide),if_neg (by simp[tsCore,tsRows,tsCols];omega),if_neg,if_neg]
 ·rw[Bool.or_eq_true]
  rintro (h|h)
  ·obtain ⟨r,hm,h⟩:=List.any_eq_true.1 h
   obtain ⟨h1,h2,h3,_⟩:=hr r hm
   rw[h1,h2,show (tsCore n m a b).cols.length=(tsCols n).length from rfl,h3]at h
   cases h
  ·obtain ⟨x,hm,h⟩:=List.any_eq_true.1 h
   obtain ⟨h1,h2,h3⟩:=hc x hm
   rw[h1,h2,h3]at h
   cases h
 ·intro h
  obtain ⟨r,hm,h⟩:=List.any_eq_true.1 h
  rw[(hr r hm).2.2.2]at h
  cases h
theorem ts_look {n m a b:Nat}(h:TsIn n m a b):lookM (tsCore n m a b) a b=0:=by
 obtain ⟨n1,n2,m1,m2,a1,a2,b2⟩:=h
 obtain ⟨_,_,_,_,d1,d2,d3⟩:=ts_dec n (by omega) n1 m (by omega) m1 a a2 a1 b b2
 have hx:(tsCore n m a b).cols.any crossesM=false:=by
  rw[List.any_eq_false]
  intro x hx
  obtain ⟨i,_,rfl⟩:=List.mem_map.1 (show x∈(List.range n).map tsCol from hx)
  unfold crossesM
  simp only[tsCol,good0.2,good1.2]
  decide
 unfold lookM
 rw[d1,d2,d3,hx]
 rfl
theorem ts_flat (m a b:Nat):∀ l:List RowM,(∀ r∈l,r.range = [])→(l.map rangedM).flatten=l
 | [],_=>rfl
 | r :: l,h=>by
   have e:rangedM r = [r]:=by unfold rangedM;rw[if_pos (h r (by simp))]
   rw[List.map_cons,List.flatten_cons,e,ts_flat m a b l fun x hx=>h x (by simp[hx])]
   rfl
def tsTwo (n m a b:Nat):TwoM:=
 ⟨⟨(tsCols n).take a,(tsRows m a b).take b⟩,⟨(tsCols n).drop a,((tsRows m a b).drop b).map fun r=>{ r with coef:=ownM r.coef a }⟩,((tsRows m a b).drop b).map fun r=>techM r.coef a⟩
theorem ts_split {n m a b:Nat}(h:TsIn n m a b):splitOf (tsCore n m a b) (tsPs a b)=(tsTwo n m a b,0):=by
 have h0:=h
 obtain ⟨n1,n2,m1,m2,a1,a2,b2⟩:=h
 obtain ⟨_,d1,d2,d3,_⟩:=ts_dec n (by omega) n1 m (by omega) m1 a a2 a1 b b2
 have hr:∀ r∈tsRows m a b,r.range = []:=fun r hr=>by
  unfold tsRows at hr
  obtain ⟨i,hi,rfl⟩:=List.mem_map.1 hr
  rfl
 have ht:splitTwo (tsCore n m a b) a b=tsTwo n m a b:=by
  unfold splitTwo
  rw[show (tsCore n m a b).rows=tsRows m a b from rfl,ts_flat m a b _ (fun r h=>hr r (List.mem_of_mem_take h)),ts_flat m a b _ (fun r h=>hr r (List.mem_of_mem_drop h))]
  rfl
 unfold splitOf
 rw[if_neg (by rw[ts_may h0];decide),if_neg (by rw[d1];decide)]
 dsimp only
 rw[d2,d3,Int.toNat_natCast,Int.toNat_natCast,if_neg (by rw[ts_look h0];decide),ht,if_neg]
 have e1:(tsCore n m a b).cols.length=n:=by simp[tsCore,tsCols]
 have e2:(tsTwo n m a b).first.rows.length=min b m:=by simp[tsTwo,tsRows]
 have e3:(tsTwo n m a b).second.rows.length=m - b:=by simp[tsTwo,tsRows]
 rw[e1,e2,e3]
 omega
theorem ts_lens {n m a b:Nat}(h:TsIn n m a b):(tsTwo n m a b).first.cols.length=a∧(tsTwo n m a b).second.cols.length=n - a∧(tsTwo n m a b).first.rows.length=b∧(tsTwo n m a b).second.rows.length=m - b∧(tsTwo n m a b).tech.length=m - b:=by
 obtain ⟨n1,n2,m1,m2,a1,a2,b2⟩:=h
 simp[tsTwo,tsRows,tsCols]
 omega
theorem ts_heads {n m a b:Nat}(h:TsIn n m a b):(tsTwo n m a b).tech[0]?=some [(0,[49])]∧(tsTwo n m a b).second.rows[0]?=some { tsRow a b b with coef:=[(0,[50])] }∧(tsTwo n m a b).second.cols[0]?=some (tsCol a):=by
 obtain ⟨n1,n2,m1,m2,a1,a2,b2⟩:=h
 have hrow:(tsRows m a b)[b]?=some (tsRow a b b):=by unfold tsRows;simp[b2]
 have hcol:(tsCols n)[a]?=some (tsCol a):=by unfold tsCols;simp[a2]
 have hco:(tsRow a b b).coef = [(0,[49]),((a:Int),[50])]:=by unfold tsRow;simp
 refine ⟨?_,?_,?_⟩
 ·show (((tsRows m a b).drop b).map fun r=>techM r.coef a)[0]?=_
  rw[List.getElem?_map,List.getElem?_drop,Nat.add_zero,hrow]
  simp only[Option.map_some,hco]
  have ha:¬ a=0:=by omega
  simp[techM,List.filter_cons,ha]
 ·show (((tsRows m a b).drop b).map fun r=>{ r with coef:=ownM r.coef a })[0]?=_
  rw[List.getElem?_map,List.getElem?_drop,Nat.add_zero,hrow]
  simp only[Option.map_some,hco]
  have:ownM [(0,[49]),((a:Int),[50])] (a:Int) = [(0,[50])]:=by
   have ha:¬ a=0:=by omega
   simp[ownM,List.filter_cons,ha]
  rw[this]
 ·show ((tsCols n).drop a)[0]?=_
  rw[List.getElem?_drop,Nat.add_zero,hcol]
end Vic
end
section
namespace Vic
open Go Go.RowKit
theorem drawA (a:Int) {N:Nat}(h1:2≤N) (h2:N≤6):∃ A:Nat,1≤A∧A<N∧wrap64 (1+(wrap64 (wrap64 (a.tmod ((N:Int) - 1)+(N:Int)) - 1)).tmod ((N:Int) - 1))=(A:Int):=by
 have hk:(0:Int)<(N:Int) - 1:=by omega
 have k1:=Int.tmod_lt_of_pos a hk
 have k2:=Int.lt_tmod_of_pos a hk
 generalize a.tmod ((N:Int) - 1)=x at *
 have e1:wrap64 (x+(N:Int))=x+(N:Int):=by unfold wrap64;omega
 have e2:wrap64 (x+(N:Int) - 1)=x+(N:Int) - 1:=by unfold wrap64;omega
 rw[e1,e2]
 have k3:=Int.tmod_lt_of_pos (x+(N:Int) - 1) hk
 have k4:=Int.tmod_nonneg (a:=x+(N:Int) - 1) ((N:Int) - 1) (by omega)
 generalize (x+(N:Int) - 1).tmod ((N:Int) - 1)=y at *
 obtain ⟨B,rfl⟩:=Int.eq_ofNat_of_zero_le k4
 exact ⟨1+B,by omega,by omega,by unfold wrap64;omega⟩
theorem drawB (b:Int) {M:Nat}(h1:1≤M) (h2:M≤5):∃ B:Nat,B<M∧(wrap64 (b.tmod (M:Int)+(M:Int))).tmod (M:Int)=(B:Int):=by
 have hk:(0:Int)<(M:Int):=by omega
 have k1:=Int.tmod_lt_of_pos b hk
 have k2:=Int.lt_tmod_of_pos b hk
 generalize b.tmod (M:Int)=x at *
 have e1:wrap64 (x+(M:Int))=x+(M:Int):=by unfold wrap64;omega
 rw[e1]
 have k3:=Int.tmod_lt_of_pos (x+(M:Int)) hk
 have k4:=Int.tmod_nonneg (a:=x+(M:Int)) (M:Int) (by omega)
 generalize (x+(M:Int)).tmod (M:Int)=y at *
 obtain ⟨B,rfl⟩:=Int.eq_ofNat_of_zero_le k4
 exact ⟨B,by omega,rfl⟩
structure TsR (wB:World) (bc:Nat) (rv cv:Value) (n:Nat) (R:List VRow) (w:World):Prop where
 row:Row w bc 34 #[.string ⟨#[65]⟩,.string ⟨#[111]⟩,rv,cv]
 cols:Own w (bc+1) 31 5 cv n ((tsCols n).flatMap encCol)
 rows:Own w (bc+1) 28 5 rv R.length (R.flatMap encVR2)
 co:∀ p∈R,OwnCs w (bc+1) p.1 p.2.coef∧NilOr p.1 p.2.coef
 below:Below wB.heap.size wB w
 low:wB.heap.size≤bc
section
variable {wB w w':World}{bc:Nat}{rv cv:Value}{n:Nat}{R:List VRow}
theorem TsR.keep (h:TsR wB bc rv cv n R w) (hb:Below w.heap.size w w'):TsR wB bc rv cv n R w':=
 ⟨h.row.keep hb,h.cols.keep hb,h.rows.keep hb,fun p hp=>⟨OwnK.keep (h.co p hp).1 hb,(h.co p hp).2⟩,h.below.trans (hb.mono h.below.size),h.low⟩
theorem TsR.put_ {u:Value}{i:Nat}(h:Own w (bc+1) 31 5 cv n ((tsCols n).flatMap encCol)):Own (w.setCell ⟨bc,i,none⟩ u) (bc+1) 31 5 cv n ((tsCols n).flatMap encCol):=
 h.stay fun g hg=>Below.heap_setCell w ⟨bc,i,none⟩ u g (fun e=>by have:=(h.lt hg).1;have e':g=bc:=e;omega)
theorem own_far {e:TypeId}{size:Nat}{v:Value}{k:Nat}{xs:List Value}{u:Value}{i:Nat}(h:Own w (bc+1) e size v k xs):Own (w.setCell ⟨bc,i,none⟩ u) (bc+1) e size v k xs:=
 h.stay fun g hg=>Below.heap_setCell w ⟨bc,i,none⟩ u g (fun e=>by have:=(h.lt hg).1;have e':g=bc:=e;omega)
theorem TsR.addCol (h:TsR wB bc rv cv n R w) {v':Value}(ho:Own w' (bc+1) 31 5 v' (n+1) ((tsCols n).flatMap encCol ++ encCol (tsCol n))) (hg:w.grownBy w' cv.ownBlock):TsR wB bc rv v' (n+1) R (w'.setCell ⟨bc,3,none⟩ v'):=by
 have hr:=(grown_other h.cols hg h.row (by decide)).trans h.row
 have hx:(tsCols (n+1)).flatMap encCol=(tsCols n).flatMap encCol ++ encCol (tsCol n):=by
  unfold tsCols
  rw[List.range_succ,List.map_append,List.flatMap_append]
  simp
 refine ⟨?_,?_,own_far (OwnK.offT h.rows h.cols hg (by decide)),fun p hp=>⟨own_far (OwnK.offT (h.co p hp).1 h.cols hg (by decide)),(h.co p hp).2⟩,?_,h.low⟩
 ·have:=Row.set hr 3 v';simpa using this
 ·rw[hx];exact own_far ho
 ·exact (h.below.grown hg h.below.size fun j hj=>by have:=(h.cols.lt hj).1;have:=h.low;omega).setCell (p:=⟨bc,3,none⟩) h.low _
theorem TsR.addRow (h:TsR wB bc rv cv n R w) {v':Value}{p:VRow}(ho:Own w' (bc+1) 28 5 v' (R.length+1) (R.flatMap encVR2 ++ encVR2 p)) (hg:w.grownBy w' rv.ownBlock) (hp:OwnCs w (bc+1) p.1 p.2.coef) (hn:NilOr p.1 p.2.coef):TsR wB bc v' cv n (R ++ [p]) (w'.setCell ⟨bc,2,none⟩ v'):=by
 have hr:=(grown_other h.rows hg h.row (by decide)).trans h.row
 refine ⟨?_,own_far (OwnK.offT h.cols h.rows hg (by decide)),?_,fun q hq=>?_,?_,h.low⟩
 ·have:=Row.set hr 2 v';simpa using this
 ·have:Own (w'.setCell ⟨bc,2,none⟩ v') (bc+1) 28 5 v' (R.length+1) (R.flatMap encVR2 ++ encVR2 p):=own_far ho
  simpa using this
 ·rcases List.mem_append.1 hq with hq|hq
  ·exact ⟨own_far (OwnK.offT (h.co q hq).1 h.rows hg (by decide)),(h.co q hq).2⟩
  ·rw[List.mem_singleton.1 hq];exact ⟨own_far (OwnK.offT hp h.rows hg (by decide)),hn⟩
 ·exact (h.below.grown hg h.below.size fun j hj=>by have:=(h.rows.lt hj).1;have:=h.low;omega).setCell (p:=⟨bc,2,none⟩) h.low _
theorem TsR.in_ (h:TsR wB bc rv cv n R w):SlIn RowC 5 w rv (R.map (·.2))∧ColsIn w cv (tsCols n):=by
 constructor
 ·exact SlIn.map_ (fun p:VRow=>p.2) (OwnK.slIn (R:=fun w g o (p:VRow)=>RowC w g o p.2) (enc:=encVR2) (size:=5) (fun _=>rfl) h.rows fun g i x hx hk=>⟨x.1,by simpa using hk 0 _ rfl,hk 1 _ rfl,hk 2 _ rfl,hk 3 _ rfl,hk 4 _ rfl,(h.co x (List.mem_of_getElem? hx)).1.csIn,(h.co x (List.mem_of_getElem? hx)).2⟩)
 ·have e:(tsCols n).length=n:=by simp[tsCols]
  refine own_colsIn (B:=bc+1) ?_
  rw[e];exact h.cols
end
theorem own_two {w:World}{B g:Nat}{x:Int}(hr:Row w g 24 #[.int .i64 0,.string ⟨#[49]⟩,.int .i64 x,.string ⟨#[50]⟩]) (hB:B≤g):OwnCs w B (.slice (some ⟨g,0,none⟩) 2 2) [(0,[49]),(x,[50])]:=
 ⟨rfl,.inr ⟨g,2,_,rfl,hB,hr,Nat.le_refl _,by unfold maxLen;omega,rfl,rfl,fun _ _=>trivial⟩⟩
theorem tsRows_succ (j a b:Nat):tsRows (j+1) a b=tsRows j a b ++ [tsRow a b j]:=by
 unfold tsRows
 rw[List.range_succ,List.map_append]
 rfl
theorem ts_fit {n m a b:Nat}(h:TsIn n m a b):FitCore (tsCore n m a b):=by
 obtain ⟨n1,n2,m1,m2,a1,a2,b2⟩:=h
 have hd:=fun i=>dec2_len i
 refine ⟨by simp[tsCore],by simp[tsCore],by simp[tsCore,tsRows];omega,by simp[tsCore,tsCols];omega,fun r hr=>?_,fun x hx=>?_⟩
 ·obtain ⟨i,hi,rfl⟩:=List.mem_map.1 (show r∈(List.range m).map (tsRow a b)from hr)
  have:=hd i
  refine ⟨by simp[tsRow];omega,by simp[tsRow];omega,by simp[tsRow],?_,fun x hx=>?_,by simp[tsRow],by simp[tsRow]⟩
  ·simp only[tsRow];split<;>simp
  ·simp only[tsRow]at hx
   split at hx
   ·simp only[List.mem_cons,List.not_mem_nil,or_false]at hx
    rcases hx with rfl|rfl
    ·decide
    ·exact ⟨by simp,by show -9223372036854775808≤(a:Int);omega,by show (a:Int)≤9223372036854775807;omega⟩
   ·cases hx
 ·obtain ⟨i,hi,rfl⟩:=List.mem_map.1 (show x∈(List.range n).map tsCol from hx)
  have:=hd i
  exact ⟨by simp[tsCol];omega,by simp[tsCol],by simp[tsCol],by simp[tsCol];omega⟩
theorem ts_pin {w:World}{g a b:Nat}(h:Row w g 44 #[.string ⟨#[120,48]⟩,.string ⟨#[111]⟩,.string ⟨#[111,110,101]⟩,.string ⟨(120 :: dec2 a).toArray⟩,.string ⟨(114 :: dec2 b).toArray⟩,.string ⟨#[116,119,111]⟩]):PersIn w (.slice (some ⟨g,0,none⟩) 2 2) (tsPs a b):=by
 refine ⟨_,_,rfl,Nat.le_refl _,fun i x hx=>?_⟩
 rcases i with _|_|i
 ·cases hx
  exact ⟨g,0,rfl,h.cell 0,h.cell 1,h.cell 2⟩
 ·cases hx
  exact ⟨g,0,rfl,h.cell 3,h.cell 4,h.cell 5⟩
 ·simp[tsPs]at hx
end Vic
end
section
namespace Vic
open Go Go.RowKit
def RefParted (q r:Nat) (w:World) (e:Ending) (w':World):Prop:=∃ x y,e=.returned (.tuple #[x,y])∧RefN w' x q∧RefN w' y r∧Below w.heap.size w w'
theorem cmpI_le {a b:Nat}(h:a≤b):∃ c,cmpI a b=c∧c≤0:=by
 refine ⟨_,rfl,?_⟩
 unfold cmpI
 split
 ·omega
 ·rw[if_neg (by omega)];omega
theorem Half.low {b r low high mid:Nat}(h:Half b r low high) (h1:low<mid) (h2:mid<high) (h3:b*mid≤r):Half b r mid high:=⟨by rw[Nat.mul_comm];exact h3,h.2.1,by have:=h.2.2.1;omega,h.2.2.2⟩
theorem Half.high {b r low high mid:Nat}(h:Half b r low high) (h1:low<mid) (h2:mid<high) (h3:r<b*mid):Half b r low mid:=⟨h.1,by rw[Nat.mul_comm];exact h3,h.2.2.1,by have:=h.2.2.2;omega⟩
end Vic
namespace Go.Proofs.YtbdfhnelmojbpaaGreatDoor
open Go.RowKit Vic
set_option maxRecDepth 100000 in
set_option maxHeartbeats 8000000 in
theorem ref_Div (w:World) (u v:Value) (a b:Nat) (ha:RefN w u a) (hb:RefN w v b) (hal:(tdg a).length≤100000) (hbl:(tdg b).length≤100000) (h0:b≠0) :
 Calls Tryz.prog 107 #[u,v] w (RefParted (a / b) (a % b) w):=by
 obtain ⟨A,c,rfl,hA⟩:=ha.open_
 obtain ⟨A',c',rfl,hB⟩:=hb.open_
 clear ha
 obtain ⟨i1,hi1,hz1,hsz1,hby1⟩:=info_int
 have VA:Hid (val 10000 (tdg a)=a):=val_digs (by omega) a
 have da:dig 10000 (tdg a):=digs_dig (by omega) a
 obtain ⟨v,hv⟩:∃ v,v=Value.slice A' (tdg b).length c':=⟨_,rfl⟩
 rw[← hv]at hb ⊢
 have HB:=Lib.hid hb
 clear hv hB hb
 generalize tdg a=la at *
 have hmk:∀ w,(Instr.makeSlice 47 (.int .i64 la.length) (.int .i64 la.length)).run Tryz.prog w=.ok (.slice (some ⟨w.heap.size,0,none⟩) la.length la.length) (w.alloc (.cells (vals .i64 (List.replicate la.length 0)) 3)):=fun w=>mk_int _ _ rfl (by omega) w
 have DA:=Lib.hid da;have H0:=Lib.hid h0;have HBL:=Lib.hid hbl
 clear da h0 hbl
 go_enter Tryz.func107,Tryz.ntmps107
 go_wp2_with fail
 clear hmk
 go_loopw [8,7] (fun t s wr=>∃ (j:Nat) (q:List Nat) (r:Nat),t=.int .i64 ((j:Int) - 1)∧j≤la.length∧Below w.heap.size w wr∧Hid (Row wr w.heap.size 3 (vals .i64 q))∧Hid (RDiv 10000 b la q j r)∧Hid (RefN wr s r∧Above (w.heap.size+1) s)∧w.heap.size+1≤wr.heap.size) (fun t _ _=>(intOf t+1).toNat)
 case atStart=>exact ⟨la.length,_,0,rfl,by omega,(Below.refl _ _).alloc (Nat.le_refl _) _,Row.new _ _ _,RDiv.start (by omega) (by have:=H0.out;omega) la,⟨by show Ints _ _ _ (tdg 0);rw[show tdg 0 = []from digs_zero _];exact Ints.nil_ _ _,above_nil⟩,by simp⟩
 case round=>
  obtain ⟨j,q,r,rfl,hj,hbr,hrow,hdv,hr,hsz⟩:=hrel
  rcases Nat.eq_zero_or_pos j with hj0|hj0
  ·subst hj0
   obtain ⟨hq1,hq2⟩:=hdv.out.done
   rw[VA.out]at hq1 hq2
   have hlen:=hdv.out.len
   have hu:Ints .i64 wr (.slice (some ⟨w.heap.size,0,none⟩) q.length la.length) q:=hrow.out.ints (l:=q) la.length (by omega)
   have CT0:=ref_trim wr _ _ q hu hdv.out.dg (by omega)
   rw[hq1,hlen]at CT0
   have CT:=Lib.hid CT0
   have hr':=Lib.hid hr.out.1
   rw[hq2]at hr'
   clear CT0 hu hlen hr hdv
   go_wp2_with fail
   refine CT.out.mono ?_
   rintro e w' ⟨z,rfl,hz,hbz⟩
   go_wp2
   go_ret2
   exact ⟨z,_,rfl,hz,hr'.out.keep hbz,below_seq hbr hbz⟩
  ·obtain ⟨k,rfl⟩:∃ k,j=k+1:=⟨j - 1,by omega⟩
   obtain ⟨b1,o1,rfl,hc1⟩:=(Ints.keep hA hbr).at_ k (by omega)
   obtain ⟨hlt,hst⟩:=hdv.out.step (by omega) DA.out (by omega)
   have hdk:=dig_getD DA.out (by omega) k
   have hrb:=hdv.out.lt
   have hqlen:=hdv.out.len
   have HZ:Hid (q.getD k 0=0):=hdv.out.low k (by omega)
   generalize la.getD k 0=d at *
   have HDK:=Lib.hid hdk
   obtain ⟨r1,hr1⟩:∃ r1,r1=d+10000*r:=⟨_,rfl⟩
   rw[← hr1]at hlt hst
   have hr1b:r1<10000*b:=by omega
   have HST:=Lib.hid hst;have HLT:=Lib.hid hlt;have HR1:=Lib.hid hr1;have HR1B:=Lib.hid hr1b
   have hl1:(tdg r).length≤100000:=Nat.le_trans (tdg_le (Nat.le_of_lt hrb)) HBL.out
   have hl2:(tdg r1).length≤100001:=Nat.le_trans (tdg_len (Nat.lt_of_lt_of_le hr1b (by
    have:=lt_pow_digs_length (B:=10000) (by omega) b
    have e:10000 ^ ((tdg b).length+1)=10000*10000 ^ (tdg b).length:=by rw[Nat.pow_succ,Nat.mul_comm]
    rw[e]
    exact Nat.mul_le_mul_left _ (Nat.le_of_lt this)))) (by have:=HBL.out;omega)
   have h01:Below wr.heap.size wr (wr.alloc (.cells #[.int .i64 (d:Int)] 3)):=(Below.refl _ _).alloc (Nat.le_refl _) _
   have hra:=Lib.hid (hr.out.1.keep h01)
   clear hlt hst hdk hr1 hr1b hrb hdv
   go_wp2_with (at_builtin;refine wpList_append_ahead rfl (.tmp 26) (.tmp 27) 47 rfl wr.heap.size 3 i1 Tryz.underlying47 hi1 hz1 hsz1 hby1 wr.heap.size d rfl (Row.new _ _ _) (Nat.le_refl _) (by simp) _ (tdg r) rfl hra.out (by omega) ?_;intro v5 w5 hv5 hb5 hab5;refine Hid.out ?_)
   have hB5:Below wr.heap.size wr w5:=h01.trans hb5
   have hd5:dig 10000 (d :: tdg r):=dig_cons.2 ⟨HDK.out,digs_dig (by omega) r⟩
   have hv5v:val 10000 (d :: tdg r)=r1:=by rw[val_cons,val_digs (by omega),HR1.out]
   obtain ⟨A5,c5,rfl,_,_⟩:=id hv5
   have CT0:=ref_trimA w5 A5 c5 _ hv5 hd5 (by simp;omega)
   rw[hv5v]at CT0
   have CT:=Lib.hid CT0
   clear CT0 hv5 hd5 hv5v hra hr hb5
   have hlz:(d :: tdg r).length=(tdg r).length+1:=by simp
   refine Lib.hid ?_
   go_wp2_with fail
   refine CT.out.mono ?_
   rintro e w6 ⟨k6,rfl,hx6,hb6⟩
   have hab6:Above (w.heap.size+1) (.slice A5 k6 c5):=fun A l c h1 b o h2=>by
    injection h1 with h3 h4 h5
    exact Nat.le_trans hsz (hab5 A5 _ c5 rfl b o (h3.trans h2))
   obtain ⟨x6,hx6e⟩:∃ x6,x6=Value.slice A5 k6 c5:=⟨_,rfl⟩
   rw[← hx6e]at hx6 hab6 ⊢
   clear hx6e hab5
   have hB6:=below_seq hB5 hb6
   have HX6:=Lib.hid hx6
   have CC0:=ref_Cmp w6 x6 v r1 b hx6 (HB.out.keep (below_seq hbr hB6)) (by omega) (by have:=HBL.out;omega)
   have hbr6:Below w.heap.size w w6:=below_seq hbr hB6
   have hrow6:Hid (Row w6 w.heap.size 3 (vals .i64 q)):=Lib.hid (hrow.out.keep hB6)
   have hsz6:w.heap.size+1≤w6.heap.size:=Nat.le_trans hsz hB6.size
   have hrow7:=hrow6.out.free k
   clear CT hlz hx6 hrow hB5 hb6 hB6 hbr
   by_cases hlt:r1<b
   ·rw[cmpI_lt hlt]at CC0
    have CC:=Lib.hid CC0
    have hq0:r1 / b=0:=Nat.div_eq_of_lt hlt
    have hm0:r1 % b=r1:=Nat.mod_eq_of_lt hlt
    have hst:=HST.out
    rw[hq0,hm0]at hst
    have hz:q.getD k 0=0:=HZ.out
    rw[show q.set k 0=q by rw[← hz];exact set_self q k (by omega)]at hst
    have HST2:=Lib.hid hst
    clear hst hz CC0 hq0 hm0 HST HLT
    go_wp2_with fail
    refine CC.out.mono ?_
    rintro e w' ⟨rfl,rfl⟩
    go_wp2_with fail
    go_roundw
    case rel=>exact ⟨k,q,r1,by go_num,by omega,hbr6,hrow6,HST2,⟨HX6.out,hab6⟩,hsz6⟩
    case measure=>simp[intOf]
   ·have hcg:0≤cmpI r1 b:=by unfold cmpI;rw[if_neg hlt];split<;>omega
    generalize cmpI r1 b=cg at *
    have CC:=Lib.hid CC0
    clear CC0
    go_wp2_with fail
    refine CC.out.mono ?_
    rintro e w' ⟨rfl,rfl⟩
    go_wp2_with fail
    clear CC hcg
    go_loopw [9,10] (fun s t wi=>∃ (low high:Nat),s=.int .i64 low∧t=.int .i64 high∧low<high∧high≤10000∧1≤low∧Hid (Half b r1 low high)∧Below w6.heap.size w6 wi) (fun s t _=>(intOf t).toNat - (intOf s).toNat)
    case atStart=>exact ⟨1,10000,rfl,rfl,by omega,by omega,by omega,⟨by omega,HR1B.out,by omega,by omega⟩,Below.refl _ _⟩
    case round=>
     obtain ⟨low,high,rfl,rfl,hlh,hh4,hl1',hha,hbi⟩:=hrel
     by_cases hgo:low+1<high
     ·obtain ⟨mid,hmid⟩:∃ mid,mid=(low+high) / 2:=⟨_,rfl⟩
      have hm1:low<mid:=by omega
      have hm2:mid<high:=by omega
      have em:((low:Int)+(high:Int)) / 2=(mid:Int):=by omega
      have hgo':(1:Int)<(high:Int) - (low:Int):=by omega
      obtain ⟨w8,hw8⟩:∃ w8,w8=wr.alloc (.cells #[.int .i64 (mid:Int)] 3):=⟨_,rfl⟩
      have h68:Below w6.heap.size w6 w8:=by rw[hw8];exact hbi.alloc hbi.size _
      have hone:RefN w8 (.slice (some ⟨wr.heap.size,0,none⟩) 1 1) mid:=ref_one (by rw[hw8];exact Row.new _ _ _) (by omega) (by omega)
      have CM:=Lib.hid (ref_Mul w8 v _ b mid (HB.out.keep (below_seq hbr6 h68)) hone (by have:=HBL.out;omega) (by rw[tdg_small (by omega) (by omega)];simp))
      have HW8:=Lib.hid hw8
      clear hmid hw8 hone
      go_wp2_with fail
      rw[← HW8.out]
      refine CM.out.mono ?_
      rintro e w9 ⟨x9,rfl,hx9,hb9⟩
      have h69:=below_seq h68 hb9
      have CP0:=ref_Cmp w9 x9 x6 (b*mid) r1 hx9 (HX6.out.keep h69) (Nat.le_trans (tdg_mul_le b mid (by omega)) (by have:=HBL.out;omega)) (by omega)
      clear HW8 CM hx9
      by_cases hle:b*mid≤r1
      ·obtain ⟨cg,hcg,hcg2⟩:=cmpI_le hle
       rw[hcg]at CP0
       have CP:=Lib.hid CP0
       have HH:=Lib.hid (hha.out.low hm1 hm2 hle)
       clear CP0 hcg hle
       go_wp2_with fail
       refine CP.out.mono ?_
       rintro e w' ⟨rfl,rfl⟩
       go_wp2_with fail
       go_roundw
       case rel=>exact ⟨mid,high,rfl,rfl,hm2,hh4,by omega,HH,h69⟩
       case measure=>simp[intOf];omega
      ·have hcg:cmpI (b*mid) r1=1:=cmpI_gt (by omega)
       rw[hcg]at CP0
       have CP:=Lib.hid CP0
       have HH:=Lib.hid (hha.out.high hm1 hm2 (by omega))
       clear CP0 hcg hle
       go_wp2_with fail
       refine CP.out.mono ?_
       rintro e w' ⟨rfl,rfl⟩
       go_wp2_with fail
       go_roundw
       case rel=>exact ⟨low,mid,rfl,rfl,hm1,by omega,hl1',HH,h69⟩
       case measure=>simp[intOf];omega
     ·have hlow:low=r1 / b:=hha.out.done (by have:=H0.out;omega) (by omega)
      have hst:=HST.out
      rw[← hlow]at hst
      have hgo':¬ (1:Int)<(high:Int) - (low:Int):=by omega
      have hqk:=(hrow6.out.keep hbi).cell k
      rw[vals_get .i64 q k (by omega)]at hqk
      have hqf:=(hrow6.out.keep hbi).free k
      generalize q.getD k 0=q0 at hqk
      obtain ⟨w8,hw8⟩:∃ w8,w8=(wr.setCell ⟨w.heap.size,k,none⟩ (.int .i64 (low:Int))).alloc (.cells #[.int .i64 (low:Int)] 3):=⟨_,rfl⟩
      have hszr:w.heap.size+1≤wr.heap.size:=Nat.le_trans hsz6 hbi.size
      have hrow8:Hid (Row w8 w.heap.size 3 (vals .i64 (q.set k low))):=by
       rw[hw8,← vals_set]
       exact Lib.hid (((hrow6.out.keep hbi).set k _).alloc _)
      have hb8:Below w.heap.size w w8:=by
       rw[hw8]
       exact ((hbr6.trans (hbi.mono hbr6.size)).setCell (p:=⟨w.heap.size,k,none⟩) (Nat.le_refl _) _).alloc (by simp[World.setCell];omega) _
      have hsz8:w.heap.size+1≤w8.heap.size:=by rw[hw8];simp[World.setCell];omega
      have hx8:RefN w8 x6 r1:=Ints.aside (HX6.out.keep hbi) hab6 fun bb h1 h2=>by
       rw[hw8]
       exact (Below.heap_alloc _ _ bb (by simpa [World.setCell]using h2)).trans (Below.heap_setCell wr ⟨w.heap.size,k,none⟩ _ bb (by show bb≠w.heap.size;omega))
      have hlow4:low<10000:=by rw[hlow];exact HLT.out
      have hone:RefN w8 (.slice (some ⟨wr.heap.size,0,none⟩) 1 1) low:=ref_one (by
       rw[hw8]
       have:=Row.new (wr.setCell ⟨w.heap.size,k,none⟩ (.int .i64 (low:Int))) 3 #[.int .i64 (low:Int)]
       rwa [show (wr.setCell ⟨w.heap.size,k,none⟩ (.int .i64 (low:Int))).heap.size=wr.heap.size by simp[World.setCell]]at this) (by omega) hlow4
      have CM:=Lib.hid (ref_Mul w8 v _ b low (HB.out.keep hb8) hone (by have:=HBL.out;omega) (by rw[tdg_small (by omega) hlow4];simp))
      have hble:b*low≤r1:=by rw[hlow];exact Nat.mul_div_le r1 b
      have hr1n:r1≠0:=by
       intro e
       rw[e,Nat.zero_div]at hlow
       omega
      have hmod:r1 - b*low=r1 % b:=by
       rw[hlow]
       have:=Nat.div_add_mod r1 b
       omega
      have CS:Hid (∀ w9 x9,Below w8.heap.size w8 w9→RefN w9 x9 (b*low)→Calls Tryz.prog 110 #[x6,x9] w9 (Gives (fun x w'=>RefN w' x (r1 % b)∧Above w9.heap.size x) w9)):=Lib.hid fun w9 x9 h1 h2=>by
       have:=ref_SubA w9 x6 x9 r1 (b*low) (hx8.keep h1) h2 (by omega) hr1n hble
       rwa [hmod]at this
      have hm0:r1 % b % b=r1 % b:=Nat.mod_mod _ _
      have HSTT:=Lib.hid hst
      have HW8:=Lib.hid hw8
      have hlb:(low:Int)<10000:=by omega
      clear hlow hmod hble hone hx8 hw8 hst HST HLT hrow7 hm0 hr1n
      go_wp2_with fail
      rw[← HW8.out]
      refine CM.out.mono ?_
      rintro e w9 ⟨x9,rfl,hx9,hb9⟩
      have CSS:=Lib.hid (CS.out w9 x9 hb9 hx9)
      clear CS CM HW8 hx9
      go_wp2_with fail
      refine CSS.out.mono ?_
      rintro e w10 ⟨x10,rfl,⟨hx10,hab10⟩,hb10⟩
      have h810:=below_seq hb9 hb10
      have HX10:=Lib.hid hx10
      clear CSS hx10
      go_wp2_with fail
      go_roundw
      case rel=>exact ⟨k,q.set k low,r1 % b,by go_num,by omega,below_seq hb8 h810,Lib.hid (hrow8.out.keep h810),HSTT,⟨HX10.out,hab10.mono (Nat.le_trans hsz8 hb9.size)⟩,Nat.le_trans hsz8 h810.size⟩
      case measure=>simp[intOf]
end Go.Proofs.YtbdfhnelmojbpaaGreatDoor
end
section
namespace Vic
open Go Go.RowKit
def refOf (w:World):Value→Nat
 | .slice (some q) l _=>val 10000 ((List.range l).map fun i=>match w.cell? ⟨q.block,q.off+i,none⟩with|some (.int _ d)=>d.toNat|_=>0)
 | _=>0
theorem refOf_eq {w:World}{v:Value}{n:Nat}(h:RefN w v n):refOf w v=n:=by
 have hv:val 10000 (tdg n)=n:=val_digs (by omega) n
 obtain ⟨A,c,rfl,hlc,hcell⟩:=h
 rcases A with _|q
 ·rcases Nat.eq_zero_or_pos (tdg n).length with h0|h0
  ·have:tdg n = []:=List.eq_nil_of_length_eq_zero h0
   rw[this]at hv
   exact hv
  ·obtain ⟨_,_,h1,_⟩:=hcell 0 h0
   cases h1
 ·have e:((List.range (tdg n).length).map fun i=>match w.cell? ⟨q.block,q.off+i,none⟩with|some (.int _ d)=>d.toNat|_=>0)=tdg n:=by
   apply List.ext_getElem
   ·simp
   ·intro i h1 h2
    obtain ⟨b',o',hq,hi⟩:=hcell i h2
    injection hq with hq
    subst hq
    simp[hi,h2]
  show val 10000 _=_
  rw[e,hv]
theorem tdg_zero:tdg 0 = []:=digs_zero _
theorem tdg_pos {n:Nat}(h:n≠0):0<(tdg n).length:=by
 rcases Nat.eq_zero_or_pos (tdg n).length with h1|h1
 ·exact absurd ((digs_eq_nil (B:=10000) (by omega)).1 (List.eq_nil_of_length_eq_zero h1)) h
 ·exact h1
end Vic
namespace Go.Proofs.YtbdfhnelmojbpaaGreatDoor
open Go.RowKit Vic
set_option maxRecDepth 100000 in
set_option maxHeartbeats 4000000 in
theorem ref_Gcd (w:World) (u v:Value) (a b:Nat) (ha:RefN w u a) (hb:RefN w v b) (hal:(tdg a).length≤100000) (hbl:(tdg b).length≤100000) :
 Calls Tryz.prog 39 #[u,v] w (Gives (fun x w'=>RefN w' x (Nat.gcd a b)) w):=by
 have HA:=Lib.hid ha;have HB:=Lib.hid hb
 obtain ⟨G,hG⟩:∃ G,G=Nat.gcd a b:=⟨_,rfl⟩
 rw[← hG]
 have HG:=Lib.hid hG
 clear ha hb hG
 go_enter Tryz.func39,Tryz.ntmps39
 go_wp2_with fail
 go_loopw [0,1] (fun s t wr=>∃ (x y:Nat),Hid (RefN wr s x)∧RefN wr t y∧Hid (G=Nat.gcd x y)∧(tdg x).length≤100000∧(tdg y).length≤100000∧Below w.heap.size w wr) (fun _ t wr=>refOf wr t)
 case atStart=>exact ⟨a,b,HA,HB.out,HG,hal,hbl,Below.refl _ _⟩
 case round=>
  obtain ⟨x,y,hx,hy,hg,hxl,hyl,hbr⟩:=hrel
  have hy0:=hy
  have HY:=Lib.hid hy
  have hmo:=Lib.hid (refOf_eq hy)
  obtain ⟨A1,c1,he,_⟩:=hy.open_
  subst he
  clear hy hy0
  by_cases h0:y=0
  ·have hge:Hid (G=x):=by rw[hg.out,h0,Nat.gcd_zero_right];exact Lib.hid rfl
   subst h0
   rw[tdg_zero]at *
   clear hmo hg
   go_wp2_with fail
   go_ret
   exact ⟨_,rfl,by rw[hge.out];exact hx.out,hbr⟩
  ·have hp:=tdg_pos h0
   have CD:=Lib.hid (ref_Div wr u0 _ x y hx.out HY.out hxl hyl h0)
   have hge:Hid (G=Nat.gcd y (x % y)):=by rw[hg.out,Nat.gcd_comm,Nat.gcd_rec,Nat.gcd_comm];exact Lib.hid rfl
   have hml:Hid ((tdg (x % y)).length≤100000):=Lib.hid (Nat.le_trans (tdg_le (Nat.le_of_lt (Nat.mod_lt _ (by omega)))) hyl)
   have hlt:Hid (x % y<y):=Lib.hid (Nat.mod_lt _ (by omega))
   unfold RefParted at CD
   clear hg
   go_wp2_with fail
   refine CD.out.mono ?_
   rintro e w2 ⟨q2,r2,rfl,hq2,hr2,hb2⟩
   have HR2:=Lib.hid hr2
   clear hr2 hq2
   go_wp2_with fail
   go_roundw
   case rel=>exact ⟨y,x % y,Lib.hid (HY.out.keep hb2),HR2.out,hge,hyl,hml.out,hbr.trans (hb2.mono hbr.size)⟩
   case measure=>rw[refOf_eq HR2.out,hmo.out];exact hlt.out
end Go.Proofs.YtbdfhnelmojbpaaGreatDoor
end
section
namespace Vic
open Go Go.RowKit
def RefQ (w:World) (v:Value) (ng:Bool) (n d:Nat):Prop:=∃ x y,v=.agg #[.bool ng,x,y]∧RefN w x n∧RefN w y d∧(ng=true→n≠0)
theorem RefQ.keep {w w':World}{v:Value}{ng:Bool}{n d:Nat}(h:RefQ w v ng n d) (hb:Below w.heap.size w w'):RefQ w' v ng n d:=by
 obtain ⟨x,y,h1,h2,h3,h4⟩:=h
 exact ⟨x,y,h1,h2.keep hb,h3.keep hb,h4⟩
theorem Ints.rowfar {k:IntKind}{w:World}{v:Value}{l:List Nat}{g:Nat}{t:TypeId}{cs:Array Value}(h:Ints k w v l) (hr:Row w g t cs) (hc:∀ (i:Nat) (x:Int),cs[i]?≠some (.int k x)) {w':World}(hO:Only g w w'):Ints k w' v l:=by
 obtain ⟨A,c,h1,h2,h3⟩:=h
 refine ⟨A,c,h1,h2,fun i hi=>?_⟩
 obtain ⟨b,o,hA,hcl⟩:=h3 i hi
 refine ⟨b,o,hA,?_⟩
 by_cases e:b=g
 ·subst e
  rw[hr.cell]at hcl
  exact absurd hcl (hc _ _)
 ·rw[hO.cell e];exact hcl
end Vic
namespace Go.Proofs.YtbdfhnelmojbpaaGreatDoor
open Go.RowKit Vic
set_option maxRecDepth 100000 in
set_option maxHeartbeats 4000000 in
theorem ref_Frac (w:World) (ng:Bool) (u v:Value) (n d:Nat) (hn:RefN w u n) (hd:RefN w v d) :
 Calls Tryz.prog 37 #[.bool ng,u,v] w (Gives (fun x w'=>RefQ w' x (ng && decide (n≠0)) n d) w):=by
 obtain ⟨A,c,rfl,hA⟩:=hn.open_
 obtain ⟨A2,c2,rfl,hA2⟩:=hd.open_
 have hb:Hid ((0<(tdg n).length)↔n≠0):=Lib.hid ⟨fun h e=>by rw[e,tdg_zero]at h;simp at h,fun h=>tdg_pos h⟩
 clear hn hd
 have hsz:(Tryz.prog.info? 49).map (·.size)=some 3:=by kernel_rfl
 have h01:∀ cs,Below w.heap.size w (w.alloc (.cells cs 49)):=fun cs=>(Below.refl _ _).alloc (Nat.le_refl _) _
 have HA:=Lib.hid hA;have HA2:=Lib.hid hA2;have H01:=Lib.hid h01
 clear hA hA2 h01
 cases ng
 ·go_enter Tryz.func37,Tryz.ntmps37
  go_wp2_with fail
  refine bodyPost_ret (v:=.agg #[.bool false,.slice A (tdg n).length c,.slice A2 (tdg d).length c2]) (results_cell_row (p:=6) (ty:=49) Tryz.results37 _ _ w.heap.size 49 #[.bool false,.slice A (tdg n).length c,.slice A2 (tdg d).length c2] (0,0) _ (by simp[go_sem]) (heap_alloc_new _ _) Tryz.underlying49 rfl hsz) rfl ?_
  exact ⟨_,rfl,⟨_,_,rfl,Ints.keep HA.out (H01.out _),Ints.keep HA2.out (H01.out _),fun h=>by cases h⟩,H01.out _⟩
 ·obtain ⟨bb,hbb⟩:∃ bb,bb=decide (0<(tdg n).length):=⟨_,rfl⟩
  have hbn:Hid (bb=(true && decide (n≠0))):=Lib.hid (by rw[hbb,Bool.true_and];exact decide_eq_decide.2 hb.out)
  have hbq:=hbb.symm
  clear hbb
  go_enter Tryz.func37,Tryz.ntmps37
  go_wp2_with fail
  refine bodyPost_ret (v:=.agg #[.bool bb,.slice A (tdg n).length c,.slice A2 (tdg d).length c2]) (results_cell_row (p:=6) (ty:=49) Tryz.results37 _ _ w.heap.size 49 #[.bool bb,.slice A (tdg n).length c,.slice A2 (tdg d).length c2] (0,0) _ (by simp[go_sem]) (heap_alloc_new _ _) Tryz.underlying49 rfl hsz) rfl ?_
  exact ⟨_,rfl,⟨_,_,by rw[← hbn.out],Ints.keep HA.out (H01.out _),Ints.keep HA2.out (H01.out _),fun h=>by simpa using h⟩,H01.out _⟩
end Go.Proofs.YtbdfhnelmojbpaaGreatDoor
end
section
namespace Vic
open Go Go.RowKit
theorem tdg_top {n:Nat}(h:n≠0):0<(tdg n).getD ((tdg n).length - 1) 0:=by
 have h1:=digs_norm (B:=10000) (by omega) n
 have h2:=tdg_pos h
 rcases Nat.eq_zero_or_pos ((tdg n).getD ((tdg n).length - 1) 0)with h3|h3
 ·exfalso
  apply h1
  show (tdg n).getLast?=some 0
  rw[List.getLast?_eq_getElem?]
  rw[List.getD_eq_getElem?_getD,List.getElem?_eq_getElem (by omega),Option.getD_some]at h3
  rw[List.getElem?_eq_getElem (by omega),h3]
 ·exact h3
theorem txt_done (n i:Nat) (hi:i+1=(tdg n).length):Lib.decDigits n=Lib.decDigits ((tdg n).getD i 0) ++ txt ((tdg n).take i):=by
 have hn:n≠0:=fun e=>by rw[e,tdg_zero]at hi;simp at hi
 have h0:=tdg_top hn
 rw[show (tdg n).length - 1=i by omega]at h0
 have hd:=dig_take (digs_dig (B:=10000) (by omega) n) i
 have h1:=dec_txt ((tdg n).take i) hd _ h0
 have hlen:((tdg n).take i).length=i:=by rw[List.length_take];omega
 have h2:=val_take_step 10000 (tdg n) i
 rw[val_take_all _ _ _ (by omega),val_digs (by omega)]at h2
 rw[hlen,← h2]at h1
 exact h1
end Vic
namespace Go.Proofs.YtbdfhnelmojbpaaGreatDoor
open Go.RowKit Vic
set_option maxRecDepth 100000 in
set_option maxHeartbeats 4000000 in
theorem ref_N_Text (w:World) (v:Value) (n:Nat) (h:RefN w v n) (hl:(tdg n).length≤100000) :
 Calls Tryz.prog 90 #[v] w (Keeps (.string ⟨(Lib.decDigits n).toArray⟩) w):=by
 obtain ⟨A,c,rfl,hA⟩:=h.open_
 clear h
 by_cases hn:n=0
 ·subst hn
  rw[tdg_zero]at *
  have hd:Hid (Lib.decDigits 0 = [48]):=Lib.hid (by rw[dec_small (by omega)];rfl)
  go_enter Tryz.func90,Tryz.ntmps90
  go_wp2_with fail
  go_ret
  exact ⟨by rw[hd.out];rfl,Below.refl _ _⟩
 ·have hpos:=tdg_pos hn
  have HTD:Hid (∀ i,i+1=(tdg n).length→Lib.decDigits n=Lib.decDigits ((tdg n).getD i 0) ++ txt ((tdg n).take i)):=Lib.hid (txt_done n)
  have HTOP:=Lib.hid (tdg_top hn)
  have HDG:Hid (dig 10000 (tdg n)):=Lib.hid (digs_dig (by omega) n)
  have HTT:Hid (∀ i,i<(tdg n).length→txt ((tdg n).take (i+1))=pad 4 ((tdg n).getD i 0) ++ txt ((tdg n).take i)):=Lib.hid (txt_take (tdg n))
  generalize tdg n=l at *
  obtain ⟨T,hT⟩:∃ T,T=Lib.decDigits n:=⟨_,rfl⟩
  rw[← hT]at HTD ⊢
  clear hT hn
  go_enter Tryz.func90,Tryz.ntmps90
  go_wp2_with fail
  go_loopw [4,3] (fun t s wr=>∃ (i:Nat) (bs:List UInt8),t=.int .i64 i∧i≤l.length∧s=.string ⟨bs.toArray⟩∧Hid (bs=if i<l.length then txt (l.take i)else T)∧Below w.heap.size w wr) (fun t _ _=>l.length - (intOf t).toNat)
  case atStart=>exact ⟨0,[],rfl,by omega,rfl,by show _=_;rw[if_pos hpos];rfl,Below.refl _ _⟩
  case round=>
   obtain ⟨i,bs,rfl,hi,rfl,hbs,hbr⟩:=hrel
   by_cases hlt:i<l.length
   ·obtain ⟨b1,o1,rfl,hc1⟩:=(Ints.keep hA hbr).at_ i hlt
    have hD:=dig_getD HDG.out (by omega) i
    have hbs1:=Lib.hid hbs.out
    rw[if_pos hlt]at hbs1
    have hnext:Hid (∀ k,k≠0→(i+1=l.length→0<l.getD i 0 / 10 ^ (k - 1))→(i+1=l.length→l.getD i 0 / 10 ^ k=0)→(i+1<l.length→k=4)→pad k (l.getD i 0) ++ bs=if i+1<l.length then txt (l.take (i+1))else T):=Lib.hid fun k hk h1 h2 h3=>by
     rw[hbs1.out]
     by_cases h5:i+1<l.length
     ·rw[if_pos h5,h3 h5,HTT.out i hlt]
     ·rw[if_neg h5,HTD.out i (by omega)]
      obtain ⟨k',rfl⟩:∃ k',k=k'+1:=⟨k - 1,by omega⟩
      have h6:=h1 (by omega)
      simp only[Nat.add_sub_cancel]at h6
      rw[pad_top k' _ h6 (h2 (by omega))]
    have hD0:Hid (i+1=l.length→0<l.getD i 0):=Lib.hid fun h=>by
     have:=HTOP.out
     rwa [show l.length - 1=i by omega]at this
    have hbsl:bs.length≤400000:=by
     rw[hbs1.out,txt_length,List.length_take];omega
    generalize l.getD i 0=D at *
    clear hbs
    go_wp2_with fail
    go_loopw [6,5,3] (fun t u s wr=>∃ (k d:Nat) (cs:List UInt8),t=.int .i64 k∧k≤4∧u=.int .i64 d∧Hid (d=D / 10 ^ k)∧d<10000∧s=.string ⟨cs.toArray⟩∧Hid (cs=pad k D ++ bs)∧Hid (i+1=l.length→k≠0→0<D / 10 ^ (k - 1))∧Below w.heap.size w wr) (fun t _ _ _=>4 - (intOf t).toNat)
    case atStart=>exact ⟨0,D,bs,rfl,by omega,rfl,by show _=_;simp,hD,rfl,by show _=_;rfl,fun _ h=>absurd rfl h,hbr⟩
    case round=>
     clear hbr hc1
     obtain ⟨k,d,cs,rfl,hk,rfl,hd,hd4,rfl,hcs,hk0,hbr⟩:=hrel
     have hlast:Hid (i+1=l.length→k=4∨d=0→pad k D ++ bs=T):=Lib.hid fun h1 h2=>by
      have h0:=hD0.out h1
      have hk1:k≠0:=fun e=>by
       subst e
       have:=hd.out
       simp at this
       omega
      have h5:=hnext.out k hk1 (fun _=>hk0.out h1 hk1) (fun _=>by
       rcases h2 with h2|h2
       ·rw[h2];exact Nat.div_eq_of_lt (by omega)
       ·rw[← hd.out];exact h2) (fun h=>by omega)
      rwa [if_neg (by omega)]at h5
     have hcl:cs.length≤400004:=by rw[hcs.out,List.length_append,pad_length];omega
     by_cases hk4:k<4
     ·by_cases hbrk:i+1=l.length∧d=0
      ·have hb1:((i:Int) == (l.length:Int) - 1)=true:=by rw[beq_iff_eq];omega
       obtain ⟨hb2,hb3⟩:=hbrk
       have HL:=Lib.hid (hcs.out.trans (hlast.out hb2 (.inr hb3)))
       subst hb3
       clear hlast hnext hk0 hd hcs
       go_wp2_with fail
       go_roundw
       case rel=>exact ⟨i+1,cs,by go_num,by omega,rfl,by rw[if_neg (by omega)];exact HL,hbr⟩
       case measure=>simp[intOf];omega
      ·have hb1:Hid (((i:Int) == (l.length:Int) - 1)=true→((d:Int) == 0)=false):=Lib.hid fun h=>by
        rw[beq_iff_eq]at h
        rw[beq_eq_false_iff_ne]
        omega
       have hnz:Hid (i+1=l.length→d≠0):=Lib.hid fun h1 h2=>hbrk ⟨h1,h2⟩
       obtain ⟨b,hb⟩:∃ b:UInt8,b=UInt8.ofNat (48+d % 10):=⟨_,rfl⟩
       have hbn:((48:Int)+(d:Int) % 10)=(b.toNat:Int):=by
        rw[hb,byte_dig (Nat.mod_lt _ (by omega))];omega
       have hcs2:Hid (b :: cs=pad (k+1) D ++ bs):=Lib.hid (by rw[pad_front,← hd.out,← hb,hcs.out];rfl)
       obtain ⟨d2,hd2e⟩:∃ d2,d2=d / 10:=⟨_,rfl⟩
       have hd2:Hid (d2=D / 10 ^ (k+1)):=Lib.hid (by rw[hd2e,hd.out,Nat.div_div_eq_div_mul,Nat.pow_succ])
       have hk2:Hid (i+1=l.length→k+1≠0→0<D / 10 ^ (k+1 - 1)):=Lib.hid fun h _=>by
        rw[Nat.add_sub_cancel,← hd.out]
        have:=hnz.out h
        omega
       have hcv:(convert 115 9 (.slice (some ⟨wr.heap.size,0,none⟩) 1 1)).run Tryz.prog (wr.alloc (.cells #[.int .u8 (b.toNat:Int)] 5))=.ok (.string ⟨[b].toArray⟩) (wr.alloc (.cells #[.int .u8 (b.toNat:Int)] 5)):=by
        have:=run_convert_bytes_back (P:=Tryz.prog) (wr.alloc (.cells #[.int .u8 (b.toNat:Int)] 5)) 115 9 5 ⟨wr.heap.size,0,none⟩ 1 [b] (by kernel_rfl) (by kernel_rfl) (by kernel_rfl) (fun j hj=>by
         simp only[List.length_cons,List.length_nil]at hj
         obtain rfl:j=0:=by omega
         rw[show (⟨wr.heap.size,0,none⟩:Addr).add 0=⟨wr.heap.size,0,none⟩ by simp[Addr.add]]
         exact (Row.new _ _ _).cell 0)
        exact this
       have hba:Below w.heap.size w (wr.alloc (.cells #[.int .u8 (b.toNat:Int)] 5)):=hbr.alloc hbr.size _
       have hdd:((d:Int) / 10)=((d2:Nat):Int):=by omega
       have hd10:d2<10000:=by omega
       clear hb hd2e hlast hnext hk0 hd hcs
       by_cases hlst:((i:Int) == (l.length:Int) - 1)=true
       ·have hdz:=hb1.out hlst
        go_wp2_with fail
        go_roundw
        case rel=>exact ⟨k+1,d2,b :: cs,by go_num,by omega,rfl,hd2,hd10,congrArg Value.string (bytes_app [b] cs),hcs2,hk2,hba⟩
        case measure=>simp[intOf];omega
       ·have hlf:((i:Int) == (l.length:Int) - 1)=false:=by simpa using hlst
        clear hlst
        go_wp2_with fail
        go_roundw
        case rel=>exact ⟨k+1,d2,b :: cs,by go_num,by omega,rfl,hd2,hd10,congrArg Value.string (bytes_app [b] cs),hcs2,hk2,hba⟩
        case measure=>simp[intOf];omega
     ·obtain rfl:k=4:=by omega
      have HL:Hid (cs=if i+1<l.length then txt (l.take (i+1))else T):=Lib.hid (by
       rw[hcs.out]
       exact hnext.out 4 (by omega) (fun h=>hk0.out h (by omega)) (fun _=>Nat.div_eq_of_lt (by omega)) (fun _=>rfl))
      clear hlast hnext hk0 hd hcs
      go_wp2_with fail
      go_roundw
      case rel=>exact ⟨i+1,cs,by go_num,by omega,rfl,HL,hbr⟩
      case measure=>simp[intOf];omega
   ·obtain rfl:i=l.length:=by omega
    have hbs1:=Lib.hid hbs.out
    rw[if_neg (by omega)]at hbs1
    clear hbs
    go_wp2_with fail
    go_ret
    exact ⟨by rw[← hbs1.out];rfl,hbr⟩
end Go.Proofs.YtbdfhnelmojbpaaGreatDoor
end
