/- A region that draws its order: loads are taken first while a condition on the world holds; one operation, which waits for all others, need not keep it. No program in sight. -/
import Derived.Deep.RegionHeld
set_option linter.unusedVariables false
set_option linter.unusedSimpArgs false
section
namespace Vic
open Go
section
variable {P:Program}{ops:Array Oper}{Q:Exit→Act→World→Prop}{md:Region.Mode}{S:World→Prop}{tl:Nat}
def waitsOn (md:Region.Mode) (ops:Array Oper) (i k:Nat):Bool:=((ops[k]?).map fun o=>o.after.toList.any fun e=>Region.binds md e && e.on == i).getD false
theorem waitsOn_not {i k:Nat}{listed:Array Bool}(ht:waitsOn md ops i k=true) (hi:listed.getD i true=false):k∉Region.ready md ops listed:=fun hj=>by
 obtain ⟨_,oj,hoj,hall⟩:=mem_ready.1 hj
 unfold waitsOn at ht
 rw[hoj]at ht
 simp only[Option.map_some,Option.getD_some]at ht
 obtain ⟨e,he,h2⟩:=List.any_eq_true.1 ht
 simp only[Bool.and_eq_true,beq_iff_eq]at h2
 have h3:=hall e (by simpa using he) h2.1
 rw[h2.2]at h3
 rcases Nat.lt_or_ge i listed.size with h'|h'
 ·simp[h']at hi h3;rw[hi]at h3;cases h3
 ·simp[Array.getElem?_eq_none h']at h3
def leads (md:Region.Mode) (ops:Array Oper) (listed:Array Bool) (tl:Nat):Nat→Nat→Bool
 | 0,_=>false
 | f+1,i=>(List.range ops.size).any fun k=>waitsOn md ops i k && (k == tl || (!(listed.getD k true) && leads md ops listed tl f k))
theorem leads_not {listed:Array Bool}:∀ (f i:Nat),leads md ops listed tl f i=true→listed.getD i true=false→tl∉Region.ready md ops listed
 | 0,_,h,_=>by simp[leads]at h
 | f+1,i,h,hi=>by
   unfold leads at h
   obtain ⟨k,_,h⟩:=List.any_eq_true.1 h
   simp only[Bool.and_eq_true,Bool.not_eq_true',Bool.or_eq_true,beq_iff_eq]at h
   rcases h.2 with h2|h2
   ·subst h2;exact waitsOn_not h.1 hi
   ·exact leads_not f k h2.2 h2.1
theorem leads_next {j:Nat}{listed:Array Bool}(hj:j∈Region.ready md ops listed):∀ (f i:Nat),leads md ops listed tl f i=true→listed.getD i true=false→j≠i→leads md ops (listed.setIfInBounds j true) tl f i=true
 | 0,_,h,_,_=>by simp[leads]at h
 | f+1,i,h,hi,hji=>by
   unfold leads at h ⊢
   obtain ⟨k,hk,h⟩:=List.any_eq_true.1 h
   refine List.any_eq_true.2 ⟨k,hk,?_⟩
   simp only[Bool.and_eq_true,Bool.not_eq_true',Bool.or_eq_true,beq_iff_eq]at h ⊢
   refine ⟨h.1,?_⟩
   rcases h.2 with h2|h2
   ·exact .inl h2
   ·have hjk:j≠k:=fun e=>waitsOn_not h.1 hi (e▸hj)
    exact .inr ⟨by rw[getD_set_ne true hjk];exact h2.1,leads_next hj f k h2.2 h2.1 hjk⟩
end
end Vic
end
section
namespace Vic
open Go
section
variable {P:Program}{ops:Array Oper}{Q:Exit→Act→World→Prop}{md:Region.Mode}{S:World→Prop}{tls:List Nat}
def wpAnyU (P:Program) (md:Region.Mode) (ops:Array Oper) (Q:Exit→Act→World→Prop) (S:World→Prop) (tls:List Nat):Nat→Array Bool→Act→World→Prop
 | 0,listed,a,w=>Region.ready md ops listed = []∧Q .normal a w
 | fuel+1,listed,a,w=>
   (Region.ready md ops listed = []→Q .normal a w) ∧
   ∀ i∈Region.ready md ops listed,wpOp P ops Q i (fun a' w'=>(i∉tls→S w→S w')∧wpAnyU P md ops Q S tls fuel (listed.setIfInBounds i true) a' w') a w
theorem wpAny_of_U:∀ (fuel:Nat) (listed:Array Bool) (a:Act) (w:World),wpAnyU P md ops Q S tls fuel listed a w→wpAny P md ops Q fuel listed a w
 | 0,_,_,_,h=>h
 | fuel+1,_,_,_,h=>⟨h.1,fun i hi=>wpOp_mono (fun a' w' h'=>wpAny_of_U fuel _ a' w' h'.2) (h.2 i hi)⟩
def tailedU (md:Region.Mode) (ops:Array Oper) (listed:Array Bool) (tls:List Nat) (i:Nat):Bool:=tls.all fun t=>leads md ops listed t ops.size i
theorem wpAnyU_first {i:Nat}{oi:Oper}{v:Value}{S0:World→Prop}{tl0:List Nat}(hi:ops[i]?=some oi) (hsel:∀ (j:Nat) (o:Oper) cs b,ops[j]?=some o→o.op≠.select cs b)
 (hQ:∀ c a w,Q (.panic c) (a.put oi.dst v) w→Q (.panic c) a w) (hS0:(∀ w,S0 w)∨(S0=S∧tl0=tls)) :
 ∀ (fuel:Nat) (listed:Array Bool) (a:Act) (w:World),
   (∀ j oj,ops[j]?=some oj→j≠i→listed.getD j true=false→(∀ e∈oj.after,Region.binds md e=true→e.on≠i)→oi.apart ops oj=true) →
   tailedU md ops listed tl0 i=true→i∈Region.ready md ops listed→YieldsIf P ops S0 oi v a→S0 w →
   wpAnyU P md ops Q S tls fuel (listed.setIfInBounds i true) (a.put oi.dst v) w→wpAnyU P md ops Q S tls (fuel+1) listed a w:=by
 intro fuel
 induction fuel with
 | zero=>
   intro listed a w _ ht hr hy hS H
   refine ⟨fun h=>(by rw[h]at hr;cases hr),fun j hj=>?_⟩
   by_cases hji:j=i
   ·subst hji;exact hy.wpOp hi hS ⟨fun _ h=>h,H⟩
   ·have:=ready_mono hj hji
    rw[H.1]at this
    cases this
 | succ fuel ih=>
   intro listed a w hfree ht hr hy hS H
   refine ⟨fun h=>(by rw[h]at hr;cases hr),fun j hj=>?_⟩
   by_cases hji:j=i
   ·subst hji;exact hy.wpOp hi hS ⟨fun _ h=>h,H⟩
   ·have h1:=H.2 j (ready_mono hj hji)
    obtain ⟨hjun,oj,hoj,hall⟩:=mem_ready.1 hj
    have hnot:∀ e∈oj.after,Region.binds md e=true→e.on≠i:=fun e he hb heq=>by
     have h1:=hall e he hb
     have h0:=(mem_ready.1 hr).1
     rw[heq]at h1
     rcases Nat.lt_or_ge i listed.size with h'|h'
     ·simp[h']at h0 h1;rw[h0]at h1;cases h1
     ·simp[Array.getElem?_eq_none h']at h1
    have h2:=wpOp_putIf hoj (hfree j oj hoj hji hjun hnot) (fun cs b=>hsel i oi cs b hi) (fun cs b=>hsel j oj cs b hoj) hQ hy h1
    have hfree':∀ k ok,ops[k]?=some ok→k≠i→(listed.setIfInBounds j true).getD k true=false →
     (∀ e∈ok.after,Region.binds md e=true→e.on≠i)→oi.apart ops ok=true:=fun k ok hk hki hun hno=>by
     refine hfree k ok hk hki ?_ hno
     by_cases hjk:j=k
     ·subst hjk;exact hjun
     ·rw[getD_set_ne true hjk]at hun;exact hun
    have ht':tailedU md ops (listed.setIfInBounds j true) tl0 i=true:=by
     unfold tailedU at ht ⊢
     rw[List.all_eq_true]at ht ⊢
     exact fun t htm=>leads_next hj _ _ (ht t htm) (mem_ready.1 hr).1 hji
    refine wpOp_mono (fun a' w' h3=>⟨fun hj' hS'=>h3.2.1 hj' hS',?_⟩) h2
    have hS0':S0 w':=by
     rcases hS0 with h0|⟨h0,h0t⟩
     ·exact h0 w'
     ·have hjt:j∉tls:=fun e=>by
       subst h0t
       unfold tailedU at ht
       rw[List.all_eq_true]at ht
       exact leads_not _ _ (ht j e) (mem_ready.1 hr).1 hj
      rw[h0]at hS ⊢
      exact h3.2.1 hjt hS
    refine ih (listed.setIfInBounds j true) a' w' hfree' ht' (ready_mono hr (Ne.symm hji)) h3.1 hS0' ?_
    rw[Array.setIfInBounds_comm _ _ hji]
    exact h3.2.2
theorem wpAnyU_take {i:Nat}{oi:Oper}{v:Value}{fuel:Nat}{listed:Array Bool}{a:Act}{w:World}(hi:ops[i]?=some oi) (ht:tailedU md ops listed tls i=true)
 (hs:Region.noSelect ops=true) (hf:Region.free md ops listed i=true) (hr:(Region.ready md ops listed).contains i=true)
 (hQ:∀ c a w,Q (.panic c) (a.put oi.dst v) w→Q (.panic c) a w) (hy:YieldsIf P ops S oi v a) (hS:S w)
 (h:wpAnyU P md ops Q S tls fuel (listed.setIfInBounds i true) (a.put oi.dst v) w):wpAnyU P md ops Q S tls (fuel+1) listed a w:=
 wpAnyU_first (S0:=S) (tl0:=tls) hi (Region.noSelect_spec hs) hQ (.inr ⟨rfl,rfl⟩) fuel listed a w (Region.free_spec hi hf) ht (by simpa using hr) hy hS h
theorem wpAnyU_pure {i:Nat}{oi:Oper}{v:Value}{fuel:Nat}{listed:Array Bool}{a:Act}{w:World}(hi:ops[i]?=some oi)
 (hs:Region.noSelect ops=true) (hf:Region.free md ops listed i=true) (hr:(Region.ready md ops listed).contains i=true)
 (hQ:∀ c a w,Q (.panic c) (a.put oi.dst v) w→Q (.panic c) a w) (hy:YieldsIf P ops (fun _=>True) oi v a)
 (h:wpAnyU P md ops Q S tls fuel (listed.setIfInBounds i true) (a.put oi.dst v) w):wpAnyU P md ops Q S tls (fuel+1) listed a w:=
 wpAnyU_first (S0:=fun _=>True) (tl0:=[]) hi (Region.noSelect_spec hs) hQ (.inl fun _=>trivial) fuel listed a w (Region.free_spec hi hf) rfl (by simpa using hr) hy trivial h
theorem wpAnyU_done {listed:Array Bool}{a:Act}{w:World}(hr:Region.ready md ops listed = []) (h:Q .normal a w) :
 ∀ fuel,wpAnyU P md ops Q S tls fuel listed a w
 | 0=>⟨hr,h⟩
 | _+1=>⟨fun _=>h,by rw[hr];simp⟩
def AllReadyU (P:Program) (md:Region.Mode) (ops:Array Oper) (Q:Exit→Act→World→Prop) (S:World→Prop) (tls:List Nat) (fuel:Nat) (listed:Array Bool) (a:Act) (w:World) (rs:List Nat):Prop:=
 ∀ i∈rs,wpOp P ops Q i (fun a' w'=>(i∉tls→S w→S w')∧wpAnyU P md ops Q S tls fuel (listed.setIfInBounds i true) a' w') a w
theorem AllReadyU.nil {fuel:Nat}{listed:Array Bool}{a:Act}{w:World}:AllReadyU P md ops Q S tls fuel listed a w []:=fun _ h=>by cases h
theorem AllReadyU.cons {fuel:Nat}{listed:Array Bool}{a:Act}{w:World}{i:Nat}{o:Oper}{rs:List Nat}(ho:ops[i]?=some o)
 (h:∀ K':Act→World→Prop,Shut (∀ a w',(i∉tls→S w→S w')→wpAnyU P md ops Q S tls fuel (listed.setIfInBounds i true) a w'→K' a w')→if Region.wanted o (yielded ops a.tmps)=true then Oper.wp P o a w K' Q else K' (a.put o.dst undef) w)
 (hs:AllReadyU P md ops Q S tls fuel listed a w rs):AllReadyU P md ops Q S tls fuel listed a w (i :: rs):=fun j hj=>by
 rcases List.mem_cons.1 hj with rfl|hj
 ·exact wpOp_step ho (fun K' hK=>h K' (fun a w hS hW=>hK a w ⟨hS,hW⟩))
 ·exact hs j hj
theorem wpAnyU_ready {rs:List Nat}{fuel:Nat}{listed:Array Bool}{a:Act}{w:World}(hr:Region.ready md ops listed=rs) (hne:rs≠[])
 (h:AllReadyU P md ops Q S tls fuel listed a w rs):wpAnyU P md ops Q S tls (fuel+1) listed a w:=
 ⟨fun h0=>absurd (hr▸h0) hne,fun j hj=>h j (hr▸hj)⟩
theorem wp_region_U {id:Nat}{a:Act}{w:World}(tls:List Nat) (S:World→Prop) (hm:P.follows .mixedOrders=true)
 (h:wpAnyU P .any ops Q S tls ops.size (Array.replicate ops.size false) a w.drew):(Code.region id ops true).wp P Q a w:=
 wp_region_any hm (wpAny_of_U _ _ _ _ h)
end
end Vic
end
