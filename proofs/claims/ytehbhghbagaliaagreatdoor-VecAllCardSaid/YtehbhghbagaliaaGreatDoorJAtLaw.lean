/- Plain law: what stands at a place of coefficients stands there in the vector of them. -/
import Derived.Test.YtehbhghbagaliaaGreatDoorJMergeLaw
import Derived.Test.YtehbhghbagaliaaGreatDoorJWalkS
import Derived.Test.YtehbhghbagaliaaGreatDoorJAppAny
set_option linter.unusedVariables false
set_option linter.unusedSimpArgs false
namespace Vic
theorem atOf_memC {ps:PL}(hr:Rising ps):∀ p∈ps,atOf ps p.1=p.2:=by
 induction ps with
 | nil=>intro p hp;cases hp
 | cons x ps ih=>
   intro p hp
   rw[atOf_cons]
   rcases List.mem_cons.1 hp with rfl|hp
   ·rw[if_pos rfl]
   ·have:=hr.low p hp
    rw[if_neg (by omega)]
    exact ih hr.tail p hp
theorem atOf_none {ps:PL}{i:Int}(h:∀ p∈ps,p.1≠i):atOf ps i=0:=by
 induction ps with
 | nil=>rfl
 | cons x ps ih=>
   rw[atOf_cons,if_neg (h x List.mem_cons_self)]
   exact ih fun p hp=>h p (List.mem_cons_of_mem _ hp)
theorem atC_mem {cs:List VCoef}(hr:cs.Pairwise (fun x y=>x.1<y.1)):∀ x∈cs,atC cs x.1=fracOf x.2:=by
 induction cs with
 | nil=>intro x hx;cases hx
 | cons y cs ih=>
   intro x hx
   have h1:=List.pairwise_cons.1 hr
   rcases List.mem_cons.1 hx with rfl|hx
   ·simp[atC]
   ·have h2:=h1.1 x hx
    have h3:=ih h1.2 x hx
    unfold atC at h3 ⊢
    rw[List.find?_cons_of_neg (by simp;omega)]
    exact h3
theorem atC_none {cs:List VCoef}{i:Int}(h:∀ x∈cs,x.1≠i):atC cs i=0:=by
 unfold atC
 rw[List.find?_eq_none.2 fun x hx=>by simpa using h x hx]
theorem atOf_atC {ps:PL}{cs:List VCoef}(hp:ps.Perm (partsOf cs)) (hr:Rising ps) (hc:cs.Pairwise (fun x y=>x.1<y.1)) (i:Int):atOf ps i=atC cs i:=by
 have hm:∀ p,p∈ps↔(∃ x∈cs,(x.1,fracOf x.2)=p)∧p.2≠0:=fun p=>by
  rw[hp.mem_iff]
  unfold partsOf
  rw[List.mem_filter,List.mem_map]
  simp
 by_cases h:∃ x∈cs,x.1=i
 ·obtain ⟨x,hx,rfl⟩:=h
  rw[atC_mem hc x hx]
  by_cases h0:fracOf x.2=0
  ·rw[h0]
   refine atOf_none fun p hpp e=>?_
   obtain ⟨⟨y,hy,rfl⟩,hne⟩:=(hm p).1 hpp
   have e':y.1=x.1:=e
   have:=atC_mem hc y hy
   rw[e',atC_mem hc x hx,h0]at this
   exact hne this.symm
  ·exact atOf_memC hr (x.1,fracOf x.2) ((hm _).2 ⟨⟨x,hx,rfl⟩,h0⟩)
 ·rw[atC_none fun x hx e=>h ⟨x,hx,e⟩]
  refine atOf_none fun p hpp e=>?_
  obtain ⟨⟨y,hy,rfl⟩,_⟩:=(hm p).1 hpp
  exact h ⟨y,hy,e⟩
end Vic
