/- Plain law: two rising lists of places and numbers, one added so many times to the other. -/
import Derived.Test.YtehbhghbagaliaaGreatDoorJWalkE
set_option linter.unusedVariables false
set_option linter.unusedSimpArgs false
namespace Vic
abbrev PL:=List (Int × Rat)
def putV (p:Int × Rat) (l:PL):PL:=if p.2=0 then l else p :: l
def mergeV (k:Rat):PL→PL→PL
 | [],[]=>[]
 | x :: a,[]=>putV x (mergeV k a [])
 | [],y :: b=>putV (y.1,k*y.2) (mergeV k [] b)
 | x :: a,y :: b=>if x.1<y.1 then putV x (mergeV k a (y :: b))else if y.1<x.1 then putV (y.1,k*y.2) (mergeV k (x :: a) b)else putV (x.1,x.2+k*y.2) (mergeV k a b)
termination_by a b=>a.length+b.length
def Rising (l:PL):Prop:=l.Pairwise (fun x y=>x.1<y.1)
theorem atOf_nil (i:Int):atOf [] i=0:=rfl
theorem atOf_cons (p:Int × Rat) (l:PL) (i:Int):atOf (p :: l) i=if p.1=i then p.2 else atOf l i:=by
 unfold atOf
 by_cases h:p.1=i
 ·simp[h]
 ·simp[h]
theorem atOf_low {l:PL}{i:Int}(h:∀ p∈l,i<p.1):atOf l i=0:=by
 induction l with
 | nil=>rfl
 | cons p l ih=>
   have h1:=h p List.mem_cons_self
   rw[atOf_cons,if_neg (by omega)]
   exact ih fun q hq=>h q (List.mem_cons_of_mem _ hq)
theorem putV_mem {p q:Int × Rat}{l:PL}(h:q∈putV p l):q=p∨q∈l:=by
 unfold putV at h
 split at h
 ·exact .inr h
 ·exact List.mem_cons.1 h
theorem putV_ne {p:Int × Rat}{l:PL}(h:∀ q∈l,q.2≠0):∀ q∈putV p l,q.2≠0:=by
 intro q hq
 unfold putV at hq
 split at hq
 ·exact h q hq
 case isFalse h0=>
  rcases List.mem_cons.1 hq with rfl|hq
  ·exact h0
  ·exact h q hq
theorem putV_rising {p:Int × Rat}{l:PL}(h:Rising l) (hp:∀ q∈l,p.1<q.1):Rising (putV p l):=by
 unfold putV
 split
 ·exact h
 ·exact List.pairwise_cons.2 ⟨hp,h⟩
theorem putV_at {p:Int × Rat}{l:PL}(i:Int) (hp:∀ q∈l,p.1<q.1):atOf (putV p l) i=if p.1=i then p.2 else atOf l i:=by
 unfold putV
 split
 case isTrue h=>
  by_cases hi:p.1=i
  ·rw[if_pos hi,h]
   exact atOf_low fun q hq=>by have:=hp q hq;omega
  ·rw[if_neg hi]
 case isFalse h=>exact atOf_cons _ _ _
theorem merge_mem (k:Rat) (a b:PL):∀ q∈mergeV k a b,(∃ x∈a,x.1=q.1)∨(∃ y∈b,y.1=q.1):=by
 fun_induction mergeV k a b with
 | case1=>intro q hq;cases hq
 | case2 x a ih=>
   intro q hq
   rcases putV_mem hq with rfl|hq
   ·exact .inl ⟨q,List.mem_cons_self,rfl⟩
   ·rcases ih q hq with ⟨z,hz,e⟩|⟨z,hz,e⟩
    ·exact .inl ⟨z,List.mem_cons_of_mem _ hz,e⟩
    ·exact .inr ⟨z,hz,e⟩
 | case3 y b ih=>
   intro q hq
   rcases putV_mem hq with rfl|hq
   ·exact .inr ⟨y,List.mem_cons_self,rfl⟩
   ·rcases ih q hq with ⟨z,hz,e⟩|⟨z,hz,e⟩
    ·exact .inl ⟨z,hz,e⟩
    ·exact .inr ⟨z,List.mem_cons_of_mem _ hz,e⟩
 | case4 x a y b h ih=>
   intro q hq
   rcases putV_mem hq with rfl|hq
   ·exact .inl ⟨q,List.mem_cons_self,rfl⟩
   ·rcases ih q hq with ⟨z,hz,e⟩|⟨z,hz,e⟩
    ·exact .inl ⟨z,List.mem_cons_of_mem _ hz,e⟩
    ·exact .inr ⟨z,hz,e⟩
 | case5 x a y b h h2 ih=>
   intro q hq
   rcases putV_mem hq with rfl|hq
   ·exact .inr ⟨y,List.mem_cons_self,rfl⟩
   ·rcases ih q hq with ⟨z,hz,e⟩|⟨z,hz,e⟩
    ·exact .inl ⟨z,hz,e⟩
    ·exact .inr ⟨z,List.mem_cons_of_mem _ hz,e⟩
 | case6 x a y b h h2 ih=>
   intro q hq
   rcases putV_mem hq with rfl|hq
   ·exact .inl ⟨x,List.mem_cons_self,rfl⟩
   ·rcases ih q hq with ⟨z,hz,e⟩|⟨z,hz,e⟩
    ·exact .inl ⟨z,List.mem_cons_of_mem _ hz,e⟩
    ·exact .inr ⟨z,List.mem_cons_of_mem _ hz,e⟩
theorem merge_ne (k:Rat) (a b:PL):∀ q∈mergeV k a b,q.2≠0:=by
 fun_induction mergeV k a b with
 | case1=>intro q hq;cases hq
 | case2 x a ih=>exact putV_ne ih
 | case3 y b ih=>exact putV_ne ih
 | case4 x a y b h ih=>exact putV_ne ih
 | case5 x a y b h h2 ih=>exact putV_ne ih
 | case6 x a y b h h2 ih=>exact putV_ne ih
theorem merge_low {k:Rat}{a b:PL}{c:Int}(ha:∀ q∈a,c<q.1) (hb:∀ q∈b,c<q.1):∀ q∈mergeV k a b,c<q.1:=by
 intro q hq
 rcases merge_mem k a b q hq with ⟨z,hz,e⟩|⟨z,hz,e⟩
 ·rw[← e];exact ha z hz
 ·rw[← e];exact hb z hz
theorem Rising.tail {x:Int × Rat}{a:PL}(h:Rising (x :: a)):Rising a:=(List.pairwise_cons.1 h).2
theorem Rising.low {x:Int × Rat}{a:PL}(h:Rising (x :: a)):∀ q∈a,x.1<q.1:=(List.pairwise_cons.1 h).1
theorem cons_low {x:Int × Rat}{a:PL}{c:Int}(h:c<x.1) (hr:Rising (x :: a)):∀ q∈x :: a,c<q.1:=by
 intro q hq
 rcases List.mem_cons.1 hq with rfl|hq
 ·exact h
 ·have:=hr.low q hq;omega
theorem merge_rising (k:Rat) (a b:PL) (ha:Rising a) (hb:Rising b):Rising (mergeV k a b):=by
 fun_induction mergeV k a b with
 | case1=>exact List.Pairwise.nil
 | case2 x a ih=>exact putV_rising (ih ha.tail hb) (merge_low ha.low fun q hq=>by cases hq)
 | case3 y b ih=>exact putV_rising (ih ha hb.tail) (merge_low (fun q hq=>by cases hq) hb.low)
 | case4 x a y b h ih=>exact putV_rising (ih ha.tail hb) (merge_low ha.low (cons_low h hb))
 | case5 x a y b h h2 ih=>exact putV_rising (ih ha hb.tail) (merge_low (cons_low h2 ha) hb.low)
 | case6 x a y b h h2 ih=>
   have e:x.1=y.1:=by omega
   exact putV_rising (ih ha.tail hb.tail) (merge_low ha.low (by rw[e];exact hb.low))
theorem merge_at (k:Rat) (a b:PL) (ha:Rising a) (hb:Rising b) (i:Int):atOf (mergeV k a b) i=atOf a i+k*atOf b i:=by
 fun_induction mergeV k a b with
 | case1=>rw[atOf_nil,Rat.mul_zero,Rat.add_zero]
 | case2 x a ih=>
   rw[putV_at i (merge_low ha.low fun q hq=>by cases hq),ih ha.tail hb,atOf_cons,atOf_nil]
   split<;>simp[Rat.mul_zero,Rat.add_zero,Rat.zero_add]
 | case3 y b ih=>
   rw[putV_at (p:=(y.1,k*y.2)) i (merge_low (fun q hq=>by cases hq) hb.low),ih ha hb.tail,atOf_cons y,atOf_nil]
   split<;>simp[Rat.mul_zero,Rat.add_zero,Rat.zero_add]
 | case4 x a y b h ih=>
   rw[putV_at i (merge_low ha.low (cons_low h hb)),ih ha.tail hb,atOf_cons x]
   split
   case isTrue hi=>
    rw[atOf_low (cons_low (c:=i) (by omega) hb),Rat.mul_zero,Rat.add_zero]
   case isFalse hi=>rfl
 | case5 x a y b h h2 ih=>
   rw[putV_at (p:=(y.1,k*y.2)) i (merge_low (cons_low h2 ha) hb.low),ih ha hb.tail,atOf_cons y]
   split
   case isTrue hi=>
    rw[atOf_low (cons_low (c:=i) (by omega) ha),Rat.zero_add]
   case isFalse hi=>rfl
 | case6 x a y b h h2 ih=>
   have e:x.1=y.1:=by omega
   rw[putV_at (p:=(x.1,x.2+k*y.2)) i (merge_low ha.low (by dsimp only;rw[e];exact hb.low)),ih ha.tail hb.tail,atOf_cons x,atOf_cons y]
   dsimp only
   rw[e]
   split<;>rfl
theorem merge_len (k:Rat) (a b:PL):(mergeV k a b).length≤a.length+b.length:=by
 have hp:∀ p l,(putV p l).length≤l.length+1:=fun p l=>by unfold putV;split<;>simp[Rat.mul_zero,Rat.add_zero,Rat.zero_add]
 fun_induction mergeV k a b with
 | case1=>simp
 | case2 x a ih=>have:=hp x (mergeV k a []);simp at ih ⊢;omega
 | case3 y b ih=>have:=hp (y.1,k*y.2) (mergeV k [] b);simp at ih ⊢;omega
 | case4 x a y b h ih=>have:=hp x (mergeV k a (y :: b));simp at ih ⊢;omega
 | case5 x a y b h h2 ih=>have:=hp (y.1,k*y.2) (mergeV k (x :: a) b);simp at ih ⊢;omega
 | case6 x a y b h h2 ih=>have:=hp (x.1,x.2+k*y.2) (mergeV k a b);simp at ih ⊢;omega
theorem atOf_mem {l:PL}(h:Rising l) {q:Int × Rat}(hq:q∈l):atOf l q.1=q.2:=by
 induction l with
 | nil=>cases hq
 | cons x l ih=>
   rw[atOf_cons]
   rcases List.mem_cons.1 hq with rfl|hq
   ·rw[if_pos rfl]
   ·have:=h.low q hq
    rw[if_neg (by omega)]
    exact ih h.tail hq
theorem merge_self (a:PL) (ha:Rising a):mergeV (-1) a a = []:=by
 rcases h:mergeV (-1) a a with _|⟨q,l⟩
 ·rfl
 ·exfalso
  have hq:q∈mergeV (-1) a a:=by rw[h];exact List.mem_cons_self
  have h1:=atOf_mem (merge_rising (-1) a a ha ha) hq
  rw[merge_at (-1) a a ha ha]at h1
  refine merge_ne (-1) a a q hq ?_
  rw[← h1,Rat.neg_mul,Rat.one_mul,Rat.add_neg_cancel]
def dotGo (b:PL) (s:Rat) (a:PL):Rat:=a.foldl (fun s p=>s+p.2*atOf b p.1) s
def dotV (a b:PL):Rat:=dotGo b 0 a
theorem dotGo_eq (b:PL) (a:PL):∀ s,dotGo b s a=s+dotV a b:=by
 induction a with
 | nil=>intro s;show s=s+0;rw[Rat.add_zero]
 | cons p a ih=>
   intro s
   show dotGo b (s+p.2*atOf b p.1) a=s+dotGo b (0+p.2*atOf b p.1) a
   rw[ih,ih (0+p.2*atOf b p.1),Rat.zero_add,Rat.add_assoc]
theorem dot_nil (b:PL):dotV [] b=0:=rfl
theorem dot_cons (p:Int × Rat) (a b:PL):dotV (p :: a) b=p.2*atOf b p.1+dotV a b:=by
 show dotGo b (0+p.2*atOf b p.1) a=_
 rw[dotGo_eq,Rat.zero_add]
theorem dot_put (p:Int × Rat) (l c:PL):dotV (putV p l) c=p.2*atOf c p.1+dotV l c:=by
 unfold putV
 split
 case isTrue h=>rw[h,Rat.zero_mul,Rat.zero_add]
 case isFalse h=>exact dot_cons _ _ _
theorem dot_merge (k:Rat) (a b c:PL):dotV (mergeV k a b) c=dotV a c+k*dotV b c:=by
 fun_induction mergeV k a b with
 | case1=>rw[dot_nil];grind
 | case2 x a ih=>rw[dot_put,ih,dot_cons,dot_nil];grind
 | case3 y b ih=>rw[dot_put,ih,dot_cons,dot_nil];grind
 | case4 x a y b h ih=>rw[dot_put,ih,dot_cons x];grind
 | case5 x a y b h h2 ih=>rw[dot_put,ih,dot_cons y];grind
 | case6 x a y b h h2 ih=>
   have e:x.1=y.1:=by omega
   rw[dot_put,ih,dot_cons x,dot_cons y,e];grind
def sumTo (a b:PL):Nat→Rat
 | 0=>0
 | n+1=>sumTo a b n+atOf a n*atOf b n
theorem sumTo_cons (p:Int × Rat) (a b:PL) (hr:Rising (p :: a)) (n:Nat):sumTo (p :: a) b n=sumTo a b n+(if 0≤p.1∧p.1<n then p.2*atOf b p.1 else 0):=by
 induction n with
 | zero=>rw[if_neg (by omega)];show (0:Rat)=0+0;rw[Rat.add_zero]
 | succ n ih=>
   rw[sumTo,sumTo,ih,atOf_cons]
   by_cases h:p.1=n
   ·have h0:atOf a (n:Int)=0:=by rw[← h];exact atOf_low hr.low
    rw[if_pos h,if_neg (by omega),if_pos (by omega),h0,h];grind
   ·rw[if_neg h]
    by_cases h2:0≤p.1∧p.1<n
    ·rw[if_pos h2,if_pos (by omega)];grind
    ·rw[if_neg h2,if_neg (by omega)];grind
theorem dot_sum (a b:PL) (n:Nat) (hr:Rising a) (hp:∀ p∈a,0≤p.1∧p.1<n):dotV a b=sumTo a b n:=by
 induction a with
 | nil=>
   rw[dot_nil]
   induction n with
   | zero=>rfl
   | succ n ih=>rw[sumTo,← ih (fun p hp=>by cases hp),atOf_nil];grind
 | cons p a ih=>
   rw[dot_cons,sumTo_cons p a b hr,if_pos (hp p List.mem_cons_self),ih hr.tail fun q hq=>hp q (List.mem_cons_of_mem _ hq)]
   grind
theorem sumTo_comm (a b:PL) (n:Nat):sumTo a b n=sumTo b a n:=by
 induction n with
 | zero=>rfl
 | succ n ih=>rw[sumTo,sumTo,ih];grind
end Vic
