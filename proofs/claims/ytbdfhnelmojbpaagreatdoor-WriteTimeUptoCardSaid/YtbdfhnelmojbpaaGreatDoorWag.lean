/- A machine for closed runs: a region whose order is drawn is sound. No program in sight. -/
import Derived.Test.YtbdfhnelmojbpaaGreatDoorWaf
set_option linter.unusedVariables false
set_option linter.unusedSimpArgs false
section
namespace Am
open Go
noncomputable section
variable {P:Program}{K:Known}{ih:Code→Nat→Env→St→Ex}{ops:Array Oper}{n:Nat}
def EnvOn (m:Map) (env:Env) (tmps:Array Value) (T:List Tmp):Prop:=∀ t∈T,∀ a,eget env t=some a→∃ v,tmps[t]?=some v∧cvo m a=some v
theorem awant_on {m:Map}{env:Env}{tmps:Array Value}{o:Oper}{b:Bool}(hE:EnvOn m env tmps (o.looksAt ops)) (h:awant ops.toList env o=some b):Region.wanted o (yielded ops tmps)=b:=by
 unfold Region.wanted
 rcases awant_iff h with ⟨hg,rfl⟩|⟨j,wnt,hg,h⟩
 ·rw[hg]
 ·rw[hg]
  unfold awant1 at h
  split at h
  ·rename_i oj hj
   rw[nth_eq,Array.getElem?_toList]at hj
   split at h
   ·rename_i t ht
    have hmem:t∈o.looksAt ops:=by simp[Oper.looksAt,hg,hj,ht]
    split at h
    ·rename_i x hx
     obtain rfl:=Option.some.inj h
     obtain ⟨v,h1,h2⟩:=hE t hmem _ hx
     simp only[cvo,Option.some.injEq]at h2;subst h2
     simp only[yielded,hj,Option.bind_some,ht,h1]
     cases x<;>cases wnt<;>rfl
    ·rename_i l hx
     obtain rfl:=Option.some.inj h
     obtain ⟨v,h1,h2⟩:=hE t hmem _ hx
     simp only[cvo,Option.map_eq_some_iff]at h2
     obtain ⟨vs,_,rfl⟩:=h2
     simp[yielded,hj,ht,h1]
    ·cases h
   ·cases h
  ·cases h
theorem rst_ok {m:Map}{env:Env}{a:Act}{T:List Tmp}(hG:Gl K m) (hE:EnvOn m env a.tmps T):RhoOk m (rstR T (evo K env)) a.eval:=fun x v hx=>by
 cases x with
 | tmp t=>
   simp only[rstR]at hx
   cases hb:memb t T with
   | false=>rw[hb]at hx;cases hx
   | true=>
     rw[hb,cond_true]at hx
     rw[memb_eq]at hb
     obtain ⟨u,h1,h2⟩:=hE t hb v hx
     simp[Act.eval,h1,h2]
 | const c=>exact evo_ok (env:=enew) (a:=a) hG (fun t a ha=>by rw[eget_new]at ha;cases ha) (.const c) v hx
 | global g=>exact evo_ok (env:=enew) (a:=a) hG (fun t a ha=>by rw[eget_new]at ha;cases ha) (.global g) v hx
 | func f=>exact evo_ok (env:=enew) (a:=a) hG (fun t a ha=>by rw[eget_new]at ha;cases ha) (.func f) v hx
theorem findB_some {mj id:Nat}{x:Blk}:∀ {B:List Rec},findB mj id B=some x→∃ r∈B,r.k=2∧tb mj r.i=true∧r.S.nx=id∧r.blk=x
 | [],h=>by simp[findB]at h
 | r :: B,h=>by
   simp only[findB]at h
   cases hb:((Nat.beq r.k 2 && tb mj r.i) && Nat.beq r.S.nx id)with
   | true=>
     rw[hb,cond_true]at h
     rw[Bool.and_eq_true,Bool.and_eq_true,Nat.beq_eq,Nat.beq_eq]at hb
     exact ⟨r,List.mem_cons_self,hb.1.1,hb.1.2,hb.2,Option.some.inj h⟩
   | false=>
     rw[hb,cond_false]at h
     obtain ⟨r',h1,h2⟩:=findB_some h
     exact ⟨r',List.mem_cons_of_mem _ h1,h2⟩
theorem rdGo_at {M:List Nat}{r:Rec}:∀ {A':List Rec}{q:Rec}{B:List Rec},rdGo P K ops M r (A' ++ [q] ++ B)=true→q.k=3→(∀ r'∈A' ++ [q],r'.k=3→tb (mOf M r'.i) r.i=false)→rd1 P K ops M r B q.S'=true
 | [],q,B,h,hq,hn=>by
   have e:rdGo P K ops M r ([] ++ [q] ++ B)=(bif Nat.beq q.k 3 then (bif tb (mOf M q.i) r.i then true else rd1 P K ops M r B q.S' && rdGo P K ops M r B)else rdGo P K ops M r B):=rfl
   rw[e,hq,hn q (by simp) hq]at h
   have h':(rd1 P K ops M r B q.S' && rdGo P K ops M r B)=true:=h
   rw[Bool.and_eq_true]at h'
   exact h'.1
 | p :: A',q,B,h,hq,hn=>by
   have e:rdGo P K ops M r (p :: A' ++ [q] ++ B)=(bif Nat.beq p.k 3 then (bif tb (mOf M p.i) r.i then true else rd1 P K ops M r (A' ++ [q] ++ B) p.S' && rdGo P K ops M r (A' ++ [q] ++ B))else rdGo P K ops M r (A' ++ [q] ++ B)):=rfl
   rw[e]at h
   have hn':∀ r'∈A' ++ [q],r'.k=3→tb (mOf M r'.i) r.i=false:=fun r' hr'=>hn r' (by simp at hr' ⊢;exact .inr hr')
   cases hb:Nat.beq p.k 3 with
   | false=>rw[hb,cond_false]at h;exact rdGo_at h hq hn'
   | true=>
     rw[hb,cond_true]at h
     rw[Nat.beq_eq]at hb
     rw[hn p (by simp) hb,cond_false,Bool.and_eq_true]at h
     exact rdGo_at h.2 hq hn'
structure Inv (P:Program) (K:Known) (ih:Code→Nat→Env→St→Ex) (ops:Array Oper) (n:Nat) (L:List Rec) (env0:Env) (S:St) (env2:Env) (S2:St) (m0:Map) (w0:World) (listed:Array Bool) (a:Act) (w:World):Prop where
 size:listed.size=ops.size
 closed:∀ j o,ops[j]?=some o→listed.getD j false=true→∀ e∈o.after.toList,Region.binds .any e=true→listed.getD e.on false=true
 tmps:a.tmps.size=n
 defers:a.defers = []
 rest:∃ m A B U eA SA,L=A ++ B∧(∀ r∈A,listed.getD r.i false=true)∧(∀ r∈B,listed.getD r.i false=true→r.k≠3)∧(A = []∨∃ A' r,A=A' ++ [r]∧r.k=3∧SA=r.S') ∧
  Run P K ih ops n A env0 S eA SA∧Run P K ih ops n B eA SA env2 S2∧(∀ id b,SA.lk id=some b→SA.nx≤id→id<S2.nx→False)∧(∀ id b,SA.lk id=some b→U id=some b) ∧
  (∀ r∈B,listed.getD r.i false=true→r.k=2→U r.S.nx=some r.blk) ∧
  (∀ id,S.nx≤id→id<S2.nx→m id≠none→id<SA.nx∨∃ r∈B,listed.getD r.i false=true∧r.k=2∧r.S.nx=id) ∧
  Step K.g m0 S.lk S.nx w0 m U S2.nx w ∧
  (∀ t x,foldE (fun i=>listed.getD i false) L (eget env0) t=some x→∃ v,a.tmps[t]?=some v∧cvo m x=some v)
theorem set_getD {listed:Array Bool}{j:Nat}(hj:j<listed.size) (i:Nat):(listed.setIfInBounds j true).getD i false=true↔listed.getD i false=true∨i=j:=by
 by_cases h:i=j
 ·subst h;simp[hj]
 ·simp only[Array.getD_eq_getD_getElem?,Array.getElem?_setIfInBounds_ne (fun e=>h e.symm),h,or_false]
theorem draw_step (hK:KnownOk P K) (hS:Sound P K ih) {L:List Rec}{env0 env2:Env}{S S2:St}{m0:Map}{w0:World}(hG0:Gl K m0)
 (hnd:∀ A r B,L=A ++ r :: B→posOk ops (mks ops.toList []) ((A.map (·.i)).reverse) r.i (B.map (·.i))=true)
 (hcov:∀ j,j<ops.size→∃ r∈L,r.i=j) (hrd:rdOk P K ops (mks ops.toList []) L S=true)
 {listed:Array Bool}{a:Act}{w:World}(I:Inv P K ih ops n L env0 S env2 S2 m0 w0 listed a w) {j:Nat}(hj:j∈Region.ready .any ops listed) (Q:Exit→Act→World→Prop) :
 wpOp P ops Q j (Inv P K ih ops n L env0 S env2 S2 m0 w0 (listed.setIfInBounds j true)) a w:=by
 obtain ⟨hun,o,ho,hpre⟩:=mem_ready.1 hj
 have hjl:j<ops.size:=(Array.getElem?_eq_some_iff.1 ho).1
 have hjs:j<listed.size:=by rw[I.size];exact hjl
 have hunF:listed.getD j false≠true:=by
  intro h
  simp only[Array.getD_eq_getD_getElem?,Array.getElem?_eq_getElem hjs,Option.getD_some]at h hun
  rw[h]at hun;cases hun
 have hpre':∀ e∈o.after.toList,Region.binds .any e=true→listed.getD e.on false=true:=fun e he hb=>hpre e (by simpa using he) hb
 obtain ⟨m,A,B,U,eA,SA,hL,hA,hB,hfront,hRA,hRB,hlive,hU1,hU2,hdom,hst,henv⟩:=I.rest
 have mask:=mask_closed (ops:=ops) (ins:=fun i=>listed.getD i false=true) I.closed
 have maskj:=mask j o ho hpre'
 obtain ⟨r,hr,hri⟩:=hcov j hjl
 have hrB:r∈B:=by
  rw[hL]at hr
  rcases List.mem_append.1 hr with h|h
  ·exact absurd (hri▸hA r h) hunF
  ·exact h
 obtain ⟨B1,B2,hBs⟩:=List.append_of_mem hrB
 have hLs:L=(A ++ B1) ++ r :: B2:=by rw[hL,hBs];simp
 rw[hBs]at hRB
 obtain ⟨e1,S1,hR1,hR2⟩:=hRB.split
 cases hR2 with
 | cons hrec hR3=>
 rename_i er
 obtain rfl:r.o=o:=by
  have:=hrec.at_
  rw[hri,ho]at this
  exact (Option.some.inj this).symm
 have hpos:=hnd _ _ _ hLs
 unfold posOk at hpos
 rw[nth_eq,Array.getElem?_toList,hri,ho]at hpos
 simp only[Bool.and_eq_true]at hpos
 obtain ⟨⟨hposW,hposL,hposN⟩,hposT⟩:=hpos
 have hne1:∀ q∈A ++ B1,q.i≠j:=fun q hq e=>by
  rw[Bool.not_eq_true',← Bool.not_eq_true,memb_eq]at hposN
  exact hposN (by rw[List.mem_reverse];exact List.mem_map.2 ⟨q,hq,e⟩)
 have hne2:∀ q∈B2,q.i≠j:=fun q hq e=>by
  obtain ⟨C1,C2,hC⟩:=List.append_of_mem hq
  have h1:=hnd (A ++ B1 ++ r :: C1) q C2 (by rw[hLs,hC];simp)
  unfold posOk at h1
  split at h1
  ·cases h1
  ·simp only[Bool.and_eq_true]at h1
   have h2:=h1.1.2.2
   rw[Bool.not_eq_true',← Bool.not_eq_true,memb_eq]at h2
   exact h2 (by rw[List.mem_reverse];exact List.mem_map.2 ⟨r,by simp,by rw[hri,e]⟩)
 have hRecs:∀ q∈L,∃ e,RecOk P K ih ops n q e:=fun q hq=>by
  rw[hL]at hq
  rcases List.mem_append.1 hq with h|h
  ·exact (hRA.mem hS q h).2.2
  ·rw[hBs]at h;exact (hRB.mem hS q h).2.2
 have hdst:∀ q∈L,∀ t,q.o.dst=some t→dstIs ops.toList q.i t=true:=fun q hq t ht=>by
  obtain ⟨e,he⟩:=hRecs q hq
  simp[dstIs,nth_eq,Array.getElem?_toList,he.at_,ht]
 have hlate:∀ t∈tsOf ops r.o,∀ q∈B2,q.o.dst=some t→listed.getD q.i false=false:=fun t ht q hq hd=>by
  have h1:=List.all_eq_true.1 hposT t ht
  rw[Bool.and_eq_true]at h1
  have h2:=List.all_eq_true.1 h1.2 q.i (List.mem_map.2 ⟨q,hq,rfl⟩)
  have hqL:q∈L:=by rw[hLs];simp[hq]
  rw[hdst q hqL t hd,cond_true]at h2
  cases hl:listed.getD q.i false with
  | false=>rfl
  | true=>
    obtain ⟨e,he⟩:=hRecs q hqL
    exact absurd (mask q.i q.o he.at_ (I.closed q.i q.o he.at_ hl) j h2) hunF
 have hearly:∀ t∈tsOf ops r.o,∀ q∈A ++ B1,q.o.dst=some t→listed.getD q.i false=true:=fun t ht q hq hd=>by
  have h1:=List.all_eq_true.1 hposT t ht
  rw[Bool.and_eq_true]at h1
  have h2:=List.all_eq_true.1 h1.1 q.i (by rw[List.mem_reverse];exact List.mem_map.2 ⟨q,hq,rfl⟩)
  have hqL:q∈L:=by rw[hLs];exact List.mem_append_left _ hq
  rw[hdst q hqL t hd,cond_true]at h2
  exact maskj q.i h2
 have hG:Gl K m:=hG0.ext hst.ext
 have hon:EnvOn m r.env a.tmps (r.o.looksAt ops):=fun t ht x hx=>by
  have ht':t∈tsOf ops r.o:=List.mem_append_left _ ht
  have h1:=(hRA.join hR1).env (eget env0) (fun _ _ h=>h) t x hx
  refine henv t x ?_
  rw[hLs,foldE_append,foldE_none (L:=r :: B2) (fun q hq hd=>?_),foldE_same (q:=fun _=>true) (g:=eget env0) (fun q hq hd=>hearly t ht' q hq hd) rfl]
  ·exact h1
  ·rcases List.mem_cons.1 hq with rfl|hq
   ·rw[hri];exact Bool.eq_false_iff.2 hunF
   ·exact hlate t ht' q hq hd
 have hρ:=rst_ok (a:=a) hG hon
 have henv':∀ (m':Map) (v:Value),Ext m m'→cvo m' r.v=some v→∀ t x,foldE (fun i=>(listed.setIfInBounds j true).getD i false) L (eget env0) t=some x→∃ u,(a.put r.o.dst v).tmps[t]?=some u∧cvo m' x=some u:=by
  intro m' v hext hv t x hx
  by_cases hd:r.o.dst=some t
  ·have htn:t<n:=by
    have hp:=aput_upd hrec.put
    rw[hd]at hp
    exact hp.1
   have ht':t∈tsOf ops r.o:=by unfold tsOf;rw[hd];exact List.mem_append_right _ (by simp[optT])
   rw[hLs,foldE_append]at hx
   have:foldE (fun i=>(listed.setIfInBounds j true).getD i false) (r :: B2) (foldE (fun i=>(listed.setIfInBounds j true).getD i false) (A ++ B1) (eget env0)) t=some r.v:=by
    rw[foldE,foldE_none (fun q hq hqd=>?_)]
    ·have:(listed.setIfInBounds j true).getD r.i false=true:=(set_getD hjs r.i).2 (.inr hri)
     rw[this];simp[updF,hd]
    ·have h1:=hlate t ht' q hq hqd
     rw[Bool.eq_false_iff]
     intro h2
     rcases (set_getD hjs q.i).1 h2 with h3|h3
     ·rw[h1]at h3;cases h3
     ·exact hne2 q hq h3
   rw[this]at hx
   obtain rfl:=Option.some.inj hx
   refine ⟨v,?_,hv⟩
   simp[Act.put,hd,I.tmps,htn]
  ·rw[foldE_same (q:=fun i=>listed.getD i false) (g:=eget env0) (fun q hq hqd=>?_) rfl]at hx
   ·obtain ⟨u,h1,h2⟩:=henv t x hx
    refine ⟨u,?_,cvo_mono hext _ h2⟩
    cases hdd:r.o.dst with
    | none=>simpa [Act.put]using h1
    | some d=>
      have:d≠t:=fun e=>hd (by rw[hdd,e])
      simp only[Act.put];rw[Array.getElem?_setIfInBounds_ne this];exact h1
   ·have:q.i≠j:=by
     intro e
     obtain ⟨eq_,he⟩:=hRecs q hq
     have:=he.at_
     rw[e,ho]at this
     exact hd (by rw[Option.some.inj this];exact hqd)
    rw[Bool.eq_iff_iff,set_getD hjs];simp[this]
 have hsz:∀ v:Value,(a.put r.o.dst v).tmps.size=n:=fun v=>by cases hd:r.o.dst<;>simp[Act.put,I.tmps]
 have hcl:∀ i o',ops[i]?=some o'→(listed.setIfInBounds j true).getD i false=true→∀ e∈o'.after.toList,Region.binds .any e=true→(listed.setIfInBounds j true).getD e.on false=true:=by
  intro i o' hi hl e he hb
  rw[set_getD hjs]at hl ⊢
  rcases hl with hl|rfl
  ·exact .inl (I.closed i o' hi hl e he hb)
  ·rw[ho]at hi;obtain rfl:=Option.some.inj hi;exact .inl (hpre' e he hb)
 have still:r.k≠3→r.k≠2→∀ v:Value,cvo m r.v=some v→Inv P K ih ops n L env0 S env2 S2 m0 w0 (listed.setIfInBounds j true) (a.put r.o.dst v) w:=by
  intro h3 h2 v hv
  refine ⟨by rw[Array.size_setIfInBounds];exact I.size,hcl,hsz v,by rw[put_defers];exact I.defers,m,A,B,U,eA,SA,hL,fun q hq=>(set_getD hjs q.i).2 (.inl (hA q hq)),fun q hq hl=>?_,hfront,hRA,by rw[hBs];exact hRB,hlive,hU1,fun q hq hl hk=>?_,fun id i1 i2 i3=>?_,hst,henv' m v (fun _ _ h=>h) hv⟩
  ·rcases (set_getD hjs q.i).1 hl with hl|hl
   ·exact hB q hq hl
   ·rw[hBs]at hq
    rcases List.mem_append.1 hq with hq|hq
    ·exact absurd hl (hne1 q (List.mem_append_right _ hq))
    ·rcases List.mem_cons.1 hq with rfl|hq
     ·exact h3
     ·exact absurd hl (hne2 q hq)
  ·rcases (set_getD hjs q.i).1 hl with hl|hl
   ·exact hU2 q hq hl hk
   ·rw[hBs]at hq
    rcases List.mem_append.1 hq with hq|hq
    ·exact absurd hl (hne1 q (List.mem_append_right _ hq))
    ·rcases List.mem_cons.1 hq with rfl|hq
     ·exact absurd hk h2
     ·exact absurd hl (hne2 q hq)
  ·rcases hdom id i1 i2 i3 with h|⟨q,q1,q2,q3⟩
   ·exact .inl h
   ·exact .inr ⟨q,q1,(set_getD hjs q.i).2 (.inl q2),q3⟩
 have hSr:SA.nx≤r.S.nx:=hR1.le hS
 have hrle:=hrec.le hS
 have hr2:r.S'.nx≤S2.nx:=hR3.le hS
 have hS0:S.nx≤SA.nx:=hRA.le hS
 have hB1:∀ q∈B1,q.k=2→q.S.nx<r.S.nx:=fun q hq hk=>by
  obtain ⟨x,y,e,he⟩:=hR1.mem hS q hq
  have:=(he.le hS).2.1 hk
  omega
 have hB2:∀ q∈B2,r.S'.nx≤q.S.nx∧(q.k=2→q.S.nx<S2.nx):=fun q hq=>by
  obtain ⟨x,y,e,he⟩:=hR3.mem hS q hq
  refine ⟨x,fun hk=>?_⟩
  have:=(he.le hS).2.1 hk
  omega
 have hfree:∀ id,r.S.nx≤id→id<r.S'.nx→m id=none:=by
  intro id i1 i2
  cases hm:m id with
  | none=>rfl
  | some LL=>
    rcases hdom id (by omega) (by omega) (by rw[hm];simp)with h|⟨q,q1,q2,q3,q4⟩
    ·omega
    ·rw[hBs]at q1
     rcases List.mem_append.1 q1 with q1|q1
     ·have:=hB1 q q1 q3;omega
     ·rcases List.mem_cons.1 q1 with rfl|q1
      ·exact absurd (hri▸q2) hunF
      ·have:=(hB2 q q1).1;omega
 unfold wpOp
 simp only[ho]
 rcases hrec.does with ⟨hw,hop,hstw⟩|⟨hw,hv,hk,hS'⟩
 rotate_left
 ·-- not wanted
  rw[awant_on hon hw]
  simp only[Bool.false_eq_true,if_false]
  exact still (by omega) (by omega) undef (by rw[hv];rfl)
 rw[awant_on hon hw]
 simp only[if_true]
 left
 rcases aopk_cases hS hop with ⟨hk,hpu,_⟩|⟨hk,hrdv,_⟩|⟨hk,⟨f,hal,hvf⟩,hg,hS'⟩|⟨hk,hle,hwr⟩
 ·-- pure
  obtain ⟨z,h1,h2⟩:=apure_ok (P:=P) hρ hpu
  unfold Oper.wp
  rw[h2 w]
  exact still (by omega) (by omega) z h1
 ·-- a read
  have hrOk:=List.all_eq_true.1 hrd r hr
  have hkb:Nat.beq r.k 1=true:=by rw[Nat.beq_eq];exact hk
  rw[hkb,cond_true,Bool.and_eq_true]at hrOk
  have hrd1:rd1 P K ops (mks ops.toList []) r B SA=true:=by
   rcases hfront with rfl|⟨A',q,rfl,hq,hqs⟩
   ·cases hRA
    rw[hL]at hrOk
    exact hrOk.1
   ·rw[hqs]
    rw[hL]at hrOk
    refine rdGo_at hrOk.2 hq fun r' hr' hk'=>?_
    rw[Bool.eq_false_iff]
    intro htb
    have hr'L:r'∈L:=by rw[hL];exact List.mem_append_left _ hr'
    obtain ⟨e,he⟩:=hRecs r' hr'L
    rw[hri]at htb
    exact hunF (mask r'.i r'.o he.at_ (I.closed r'.i r'.o he.at_ (hA r' hr')) j htb)
  unfold rd1 at hrd1
  have hcond:B.all (fun q=>bif Nat.beq q.k 3 then !(tb (mOf (mks ops.toList []) r.i) q.i)else true)=true:=by
   rw[List.all_eq_true]
   intro q hq
   cases hb:Nat.beq q.k 3 with
   | false=>rfl
   | true=>
     rw[cond_true,Bool.not_eq_true',Bool.eq_false_iff]
     intro htb
     rw[Nat.beq_eq]at hb
     rw[hri]at htb
     exact hB q hq (maskj q.i htb) hb
  rw[hcond,cond_true]at hrd1
  split at hrd1
  ·rename_i v' hv'
   obtain rfl:=eqb_ok _ hrd1
   have hRl:R (lookB SA B (mOf (mks ops.toList []) r.i)) m w:=hst.rel.sub fun id x hx=>by
    unfold lookB at hx
    split at hx
    ·rename_i b hb
     obtain rfl:=Option.some.inj hx
     exact hU1 id b hb
    ·obtain ⟨q,q1,q2,q3,q4,q5⟩:=findB_some hx
     rw[hri]at q3
     rw[← q4,← q5]
     exact hU2 q q1 (maskj q.i q3) q2
   obtain ⟨z,h1,h2⟩:=ard_ok (P:=P) hRl hρ hv'
   unfold Oper.wp
   rw[h2]
   exact still (by omega) (by omega) z h1
  ·cases hrd1
 ·-- a new block
  have hnx:r.S'.nx=r.S.nx+1:=hrle.2.1 hk
  have hm:m r.S.nx=none:=hfree r.S.nx (Nat.le_refl _) (by omega)
  obtain ⟨ob,e,hn⟩:=aalloc_ok (P:=P) hρ hal
  obtain ⟨h1,u,h2,h3⟩:=hn (mset m r.S.nx ⟨w.heap.size,0,e⟩) r.S.nx w (w.alloc ob) (mset_ext hm) (mset_self _ _ _) rfl
  unfold Oper.wp
  have h3':(execOp a.eval r.o).run P w=.ok (.value u) (w.alloc ob):=h3
  rw[h3']
  have hstep:=Step.new (w':=w.alloc ob) (blk:=r.blk) (lk':=fun id=>if id=r.S.nx then some r.blk else U id) hst.rel hg hm rfl rfl rfl rfl (fun id b hb=>by
   split at hb
   ·rename_i h;exact .inl ⟨h,(Option.some.inj hb).symm⟩
   ·rename_i h;exact .inr ⟨h,hb⟩) (fun id hid=>if_neg hid) h1
  have hnot:∀ q∈B,listed.getD q.i false=true→q.k=2→q.S.nx≠r.S.nx:=fun q hq hl hk2=>by
   rw[hBs]at hq
   rcases List.mem_append.1 hq with hq|hq
   ·have:=hB1 q hq hk2;omega
   ·rcases List.mem_cons.1 hq with rfl|hq
    ·exact absurd (hri▸hl) hunF
    ·have:=(hB2 q hq).1;omega
  refine ⟨by rw[Array.size_setIfInBounds];exact I.size,hcl,hsz u,by rw[put_defers];exact I.defers,mset m r.S.nx ⟨w.heap.size,0,e⟩,A,B,_,eA,SA,hL,fun q hq=>(set_getD hjs q.i).2 (.inl (hA q hq)),fun q hq hl=>?_,hfront,hRA,by rw[hBs];exact hRB,hlive,fun id b hb=>?_,fun q hq hl hk2=>?_,fun id i1 i2 i3=>?_,
   hst.trans2 (hstep.widen (by omega) (by omega)),henv' _ u (mset_ext hm) (hvf▸h2)⟩
  ·rcases (set_getD hjs q.i).1 hl with hl|hl
   ·exact hB q hq hl
   ·rw[hBs]at hq
    rcases List.mem_append.1 hq with hq|hq
    ·exact absurd hl (hne1 q (List.mem_append_right _ hq))
    ·rcases List.mem_cons.1 hq with rfl|hq
     ·omega
     ·exact absurd hl (hne2 q hq)
  ·show (if id=r.S.nx then some r.blk else U id)=some b
   rw[if_neg (fun e=>hlive id b hb (by omega) (by omega))]
   exact hU1 id b hb
  ·show (if q.S.nx=r.S.nx then some r.blk else U q.S.nx)=some q.blk
   rcases (set_getD hjs q.i).1 hl with hl|hl
   ·rw[if_neg (hnot q hq hl hk2)];exact hU2 q hq hl hk2
   ·rw[hBs]at hq
    rcases List.mem_append.1 hq with hq|hq
    ·exact absurd hl (hne1 q (List.mem_append_right _ hq))
    ·rcases List.mem_cons.1 hq with rfl|hq
     ·rw[if_pos rfl]
     ·exact absurd hl (hne2 q hq)
  ·by_cases e0:id=r.S.nx
   ·exact .inr ⟨r,hrB,(set_getD hjs r.i).2 (.inr hri),hk,e0.symm⟩
   ·rw[mset_ne e0]at i3
    rcases hdom id i1 i2 i3 with h|⟨q,q1,q2,q3⟩
    ·exact .inl h
    ·exact .inr ⟨q,q1,(set_getD hjs q.i).2 (.inl q2),q3⟩
 ·-- a write,a call
  have hallB1:∀ q∈B1,listed.getD q.i false=true:=fun q hq=>by
   have hs:=hstw hk
   rw[hs,cond_true]at hposW
   have h1:=List.all_eq_true.1 hposW q.i (by rw[List.mem_reverse];exact List.mem_map.2 ⟨q,List.mem_append_right _ hq,rfl⟩)
   exact maskj q.i h1
  have hk1:∀ q∈B1,q.k≠3:=fun q hq=>hB q (by rw[hBs];exact List.mem_append_left _ hq) (hallB1 q hq)
  have hlks:=hR1.lks hS hk1
  have hliveR:∀ id b,r.S.lk id=some b→r.S.nx≤id→id<S2.nx→False:=by
   intro id b hb i1 i2
   rcases hlks id b hb with h|⟨q,q1,q2,q3,_⟩
   ·exact hlive id b h (by omega) i2
   ·have:=hB1 q q1 q2;omega
  have hrU:∀ id b,r.S.lk id=some b→U id=some b:=by
   intro id b hb
   rcases hlks id b hb with h|⟨q,q1,q2,q3,q4⟩
   ·exact hU1 id b h
   ·rw[← q3,← q4];exact hU2 q (by rw[hBs];exact List.mem_append_left _ q1) (hallB1 q q1) q2
  let E:Lk:=fun id=>open Classical in if ∃ q∈B2,listed.getD q.i false=true∧q.k=2∧q.S.nx=id then U id else none
  have hE:∀ id x,E id=some x→(∃ q∈B2,listed.getD q.i false=true∧q.k=2∧q.S.nx=id)∧U id=some x:=by
   intro id x hx
   simp only[E]at hx
   split at hx
   ·rename_i h;exact ⟨h,hx⟩
   ·cases hx
  have hsub:∀ id x,jn r.S.lk E id=some x→U id=some x:=by
   intro id x hx
   rcases jn_some hx with hx|⟨_,hx⟩
   ·exact hrU id x hx
   ·exact (hE id x hx).2
  have hst':Step K.g m0 S.lk S.nx w0 m (jn r.S.lk E) S2.nx w:=hst.weaken (fun id x hx=>⟨x,hsub id x hx,fun h=>h⟩) (fun id x _ hx=>hsub id x hx)
  have hbes:∀ id x,E id=some x→K.g≤id∧r.S.lk id=none:=by
   intro id x hx
   obtain ⟨⟨q,q1,q2,q3,q4⟩,_⟩:=hE id x hx
   have h5:=hB2 q q1
   obtain ⟨_,_,e,he⟩:=hR3.mem hS q q1
   refine ⟨?_,?_⟩
   ·rcases he.does with ⟨_,h6,_⟩|⟨_,_,h6,_⟩
    ·rcases aopk_cases hS h6 with ⟨h7,_⟩|⟨h7,_⟩|⟨_,_,h7,_⟩|⟨h7,_⟩<;>omega
    ·omega
   ·cases hn:r.S.lk id with
    | none=>rfl
    | some b=>exact (hliveR id b hn (by omega) (by have:=h5.2 q3;omega)).elim
  have hRr:R r.S.lk m w:=hst'.rel.sub fun id x hx=>by unfold jn;rw[hx]
  have hfre:Fre m r.S.nx r.S'.nx:=hfree
  have fin:∀ (m1:Map) (v:Value) (w1:World),Step K.g m r.S.lk r.S.nx w m1 r.S'.lk r.S'.nx w1→cvo m1 r.v=some v→Inv P K ih ops n L env0 S env2 S2 m0 w0 (listed.setIfInBounds j true) (a.put r.o.dst v) w1:=by
   intro m1 v w1 hs1 hv
   have hbs:=hs1.beside hst'.rel hbes
   have hlive':∀ id b,r.S'.lk id=some b→r.S'.nx≤id→id<S2.nx→False:=by
    intro id b hb i1 i2
    rcases hs1.keep id b hb with ⟨b0,h1⟩|⟨_,h1⟩
    ·exact hliveR id b0 h1 (by omega) i2
    ·omega
   refine ⟨by rw[Array.size_setIfInBounds];exact I.size,hcl,hsz v,by rw[put_defers];exact I.defers,m1,A ++ B1 ++ [r],B2,jn r.S'.lk E,er,r.S',by rw[hLs];simp,fun q hq=>?_,fun q hq hl=>?_,.inr ⟨A ++ B1,r,rfl,hk,rfl⟩,?_,hR3,hlive',fun id b hb=>by unfold jn;rw[hb],fun q hq hl hk2=>?_,fun id i1 i2 i3=>?_,
    hst'.trans2 (hbs.widen (by omega) (by omega)),henv' m1 v hs1.ext hv⟩
   ·rcases List.mem_append.1 hq with hq|hq
    ·rcases List.mem_append.1 hq with hq|hq
     ·exact (set_getD hjs q.i).2 (.inl (hA q hq))
     ·exact (set_getD hjs q.i).2 (.inl (hallB1 q hq))
    ·obtain rfl:=List.mem_singleton.1 hq
     exact (set_getD hjs q.i).2 (.inr hri)
   ·rcases (set_getD hjs q.i).1 hl with hl|hl
    ·exact hB q (by rw[hBs];simp[hq]) hl
    ·exact absurd hl (hne2 q hq)
   ·exact (hRA.join hR1).join (.cons hrec .nil)
   ·have hl':listed.getD q.i false=true:=by
     rcases (set_getD hjs q.i).1 hl with hl|hl
     ·exact hl
     ·exact absurd hl (hne2 q hq)
    have h5:=hB2 q hq
    have hnone:r.S'.lk q.S.nx=none:=by
     cases hn:r.S'.lk q.S.nx with
     | none=>rfl
     | some b=>exact (hlive' _ b hn h5.1 (h5.2 hk2)).elim
    unfold jn
    rw[hnone]
    simp only[E]
    rw[if_pos ⟨q,hq,hl',hk2,rfl⟩]
    exact hU2 q (by rw[hBs];simp[hq]) hl' hk2
   ·cases hm1:m1 id with
    | none=>exact absurd hm1 i3
    | some LL=>
      rcases hs1.dom id LL hm1 with h|⟨_,h⟩
      ·rcases hdom id i1 i2 (by rw[h];simp)with h6|⟨q,q1,q2,q3,q4⟩
       ·exact .inl (by omega)
       ·rw[hBs]at q1
        rcases List.mem_append.1 q1 with q1|q1
        ·have:=hB1 q q1 q3;exact .inl (by omega)
        ·rcases List.mem_cons.1 q1 with rfl|q1
         ·exact absurd (hri▸q2) hunF
         ·exact .inr ⟨q,q1,(set_getD hjs q.i).2 (.inl q2),q3,q4⟩
      ·exact .inl h
  rcases hwr with hwr|⟨f,as,hc,hcall⟩
  ·obtain ⟨m1,w1,nx,u,h1,h2,h3,h4⟩:=awr_ok (P:=P) hRr hfre hρ hwr
   unfold Oper.wp
   rw[h1]
   rcases h2 with rfl|⟨rfl,rfl⟩
   ·exact fin m1 u w1 h4 h3
   ·exact fin m1 undef w1 h4 h3
  ·obtain ⟨_,hcs⟩:=acallf_ok hK hS hcall
   obtain ⟨args,ha,hrun⟩:=acallee_ok (P:=P) hρ hc
   unfold Oper.wp
   rw[hrun]
   rcases hcs m w args hRr hfre hG ha with ⟨he,hcalls⟩|⟨m1,w1,v,h1,h2,h3⟩
   ·rw[he]
    refine Calls.mono hcalls ?_
    rintro e w1 ⟨m1,v,rfl,h1,h2⟩
    exact fin m1 v w1 h2 h1
   ·rw[h1]
    exact fin m1 v w1 h3 h2
end
end Am
end
section
namespace Am
open Go
noncomputable section
variable {P:Program}{K:Known}{ih:Code→Nat→Env→St→Ex}{ops:Array Oper}{n:Nat}
def left (listed:Array Bool):List Rec→Nat
 | []=>0
 | r :: L=>(if listed.getD r.i false=true then 0 else 1)+left listed L
theorem left_zero {listed:Array Bool}:∀ {L:List Rec},left listed L=0→∀ r∈L,listed.getD r.i false=true
 | [],_,r,h=>by cases h
 | r0 :: L,h,r,hr=>by
   simp only[left]at h
   rcases List.mem_cons.1 hr with rfl|hr
   ·by_cases hl:listed.getD r.i false=true
    ·exact hl
    ·rw[if_neg hl]at h;omega
   ·exact left_zero (by omega) r hr
theorem left_le {l l':Array Bool}(h:∀ i,l.getD i false=true→l'.getD i false=true):∀ L:List Rec,left l' L≤left l L
 | []=>Nat.le_refl _
 | r :: L=>by
   have:=left_le h L
   simp only[left]
   by_cases h1:l.getD r.i false=true
   ·rw[if_pos h1,if_pos (h _ h1)];omega
   ·rw[if_neg h1];split<;>omega
theorem left_lt {l l':Array Bool}(h:∀ i,l.getD i false=true→l'.getD i false=true):∀ {L:List Rec}{r:Rec},r∈L→¬ l.getD r.i false=true→l'.getD r.i false=true→left l' L<left l L
 | [],r,hr,_,_=>by cases hr
 | r0 :: L,r,hr,h1,h2=>by
   simp only[left]
   rcases List.mem_cons.1 hr with rfl|hr
   ·have:=left_le h L
    rw[if_pos h2,if_neg h1];omega
   ·have:=left_lt h hr h1 h2
    by_cases h3:l.getD r0.i false=true
    ·rw[if_pos h3,if_pos (h _ h3)];omega
    ·rw[if_neg h3];split<;>omega
theorem first_left {listed:Array Bool}:∀ {L:List Rec},left listed L≠0→∃ A r B,L=A ++ r :: B∧(∀ q∈A,listed.getD q.i false=true)∧¬ listed.getD r.i false=true
 | [],h=>absurd rfl h
 | r :: L,h=>by
   by_cases hl:listed.getD r.i false=true
   ·simp only[left,if_pos hl,Nat.zero_add]at h
    obtain ⟨A,q,B,h1,h2,h3⟩:=first_left h
    exact ⟨r :: A,q,B,by rw[h1];rfl,fun x hx=>by
     rcases List.mem_cons.1 hx with rfl|hx
     ·exact hl
     ·exact h2 x hx,h3⟩
   ·exact ⟨[],r,L,rfl,fun q hq=>(by cases hq),hl⟩
theorem draw_all (hK:KnownOk P K) (hS:Sound P K ih) {L:List Rec}{env0 env2:Env}{S S2:St}{m0:Map}{w0:World}(hG0:Gl K m0) (hrun:Run P K ih ops n L env0 S env2 S2)
 (hnd:∀ A r B,L=A ++ r :: B→posOk ops (mks ops.toList []) ((A.map (·.i)).reverse) r.i (B.map (·.i))=true)
 (hcov:∀ j,j<ops.size→∃ r∈L,r.i=j) (hrd:rdOk P K ops (mks ops.toList []) L S=true) (Q:Exit→Act→World→Prop)
 (hq:∀ listed a w,Inv P K ih ops n L env0 S env2 S2 m0 w0 listed a w→(∀ r∈L,listed.getD r.i false=true)→Q .normal a w) :
 ∀ (fuel:Nat) (listed:Array Bool) (a:Act) (w:World),Inv P K ih ops n L env0 S env2 S2 m0 w0 listed a w→left listed L≤fuel→wpAny P .any ops Q fuel listed a w:=by
 have hready:∀ listed a w,Inv P K ih ops n L env0 S env2 S2 m0 w0 listed a w→Region.ready .any ops listed = []→∀ r∈L,listed.getD r.i false=true:=by
  intro listed a w I he
  by_cases h0:left listed L=0
  ·exact left_zero h0
  ·obtain ⟨A,r,B,h1,h2,h3⟩:=first_left h0
   have hp:=hnd A r B h1
   unfold posOk at hp
   split at hp
   ·cases hp
   ·rename_i o ho
    rw[nth_eq,Array.getElem?_toList]at ho
    simp only[Bool.and_eq_true]at hp
    have hlin:=List.all_eq_true.1 hp.1.2.1
    have:r.i∈Region.ready .any ops listed:=by
     rw[mem_ready]
     refine ⟨?_,o,ho,fun e he hb=>?_⟩
     ·have hl:r.i<listed.size:=by rw[I.size];exact (Array.getElem?_eq_some_iff.1 ho).1
      simp only[Array.getD_eq_getD_getElem?,Array.getElem?_eq_getElem hl,Option.getD_some]at h3 ⊢
      simpa using h3
     ·have h4:=hlin e (by simpa using he)
      rw[hb,cond_true,memb_eq,List.mem_reverse]at h4
      obtain ⟨q,h5,h6⟩:=List.mem_map.1 h4
      rw[← h6];exact h2 q h5
    rw[he]at this
    cases this
 have hnone:∀ listed a w,Inv P K ih ops n L env0 S env2 S2 m0 w0 listed a w→(∀ r∈L,listed.getD r.i false=true)→Region.ready .any ops listed = []:=by
  intro listed a w I hall
  rw[List.eq_nil_iff_forall_not_mem]
  intro j hj
  obtain ⟨h1,o,ho,_⟩:=mem_ready.1 hj
  have hjl:j<ops.size:=(Array.getElem?_eq_some_iff.1 ho).1
  obtain ⟨r,hr,rfl⟩:=hcov j hjl
  have h2:=hall r hr
  have hl:r.i<listed.size:=by rw[I.size];exact hjl
  simp only[Array.getD_eq_getD_getElem?,Array.getElem?_eq_getElem hl,Option.getD_some]at h1 h2
  rw[h1]at h2;cases h2
 intro fuel
 induction fuel with
 | zero=>
   intro listed a w I hl
   have hall:=left_zero (Nat.le_zero.1 hl)
   exact ⟨hnone listed a w I hall,hq listed a w I hall⟩
 | succ fuel IH=>
   intro listed a w I hl
   refine ⟨fun he=>hq listed a w I (hready listed a w I he),fun j hj=>?_⟩
   obtain ⟨h1,o,ho,_⟩:=mem_ready.1 hj
   have hjl:j<ops.size:=(Array.getElem?_eq_some_iff.1 ho).1
   have hjs:j<listed.size:=by rw[I.size];exact hjl
   refine wpOp_mono (fun a' w' I'=>IH _ a' w' I' ?_) (draw_step hK hS hG0 hnd hcov hrd I hj Q)
   obtain ⟨r,hr,rfl⟩:=hcov j hjl
   have:=left_lt (l:=listed) (l':=listed.setIfInBounds r.i true) (fun i hi=>(set_getD hjs i).2 (.inl hi)) hr (by
    intro h2
    simp only[Array.getD_eq_getD_getElem?,Array.getElem?_eq_getElem hjs,Option.getD_some]at h1 h2
    rw[h1]at h2;cases h2) ((set_getD hjs r.i).2 (.inr rfl))
   omega
theorem adraw_ok (hK:KnownOk P K):DrawOk P K (adraw P K):=by
 intro ih hS ops n id env S env' S' h
 unfold adraw at h
 split at h
 ·cases h
 rename_i ord M hst
 split at h
 ·cases h
 rename_i L e S2 harun
 cases hrd:rdOk P K ops M L S with
 | false=>rw[hrd]at h;cases h
 | true=>
 rw[hrd,cond_true]at h
 cases h
 obtain ⟨hrun,hord⟩:=arun_ok harun
 unfold stat stat2 at hst
 cases hb:((Nat.beq (len (ordOf ops.toList (mks ops.toList []))) (len ops.toList) && (List.range (len ops.toList)).all (fun j=>memb j (ordOf ops.toList (mks ops.toList [])))) && chkPos ops (mks ops.toList []) [] (ordOf ops.toList (mks ops.toList [])))with
 | false=>rw[hb]at hst;cases hst
 | true=>
 rw[hb,cond_true]at hst
 obtain ⟨rfl,rfl⟩:=Prod.mk.inj (Option.some.inj hst)
 rw[Bool.and_eq_true,Bool.and_eq_true,Nat.beq_eq,len_eq,len_eq]at hb
 obtain ⟨⟨hb0,hb1⟩,hb2⟩:=hb
 rw[← hord,List.length_map]at hb0
 have hnd:∀ A r B,L=A ++ r :: B→posOk ops (mks ops.toList []) ((A.map (·.i)).reverse) r.i (B.map (·.i))=true:=by
  intro A r B hL
  rw[← hord,hL]at hb2
  simp only[List.map_append,List.map_cons]at hb2
  have:=chkPos_at hb2
  simpa using this
 have hcov:∀ j,j<ops.size→∃ r∈L,r.i=j:=by
  intro j hj
  have h1:=List.all_eq_true.1 hb1 j (by rw[List.mem_range];simpa using hj)
  rw[memb_eq,← hord]at h1
  obtain ⟨r,h2,h3⟩:=List.mem_map.1 h1
  exact ⟨r,h2,h3⟩
 refine ⟨hrun.le hS,fun m a w hR hf hG hE hn hd Q hq=>wp_region_any hK.mixed ?_⟩
 refine draw_all (m0:=m) (w0:=w) hK hS hG hrun hnd hcov hrd Q (fun listed a' w' I hall=>?_) ops.size _ a _ ?_ ?_
 ·obtain ⟨m',A,B,U,eA,SA,hL,hA,hB,_,hRA,hRB,_,hU1,hU2,_,hst',henv⟩:=I.rest
  have hsub:∀ id b,S'.lk id=some b→U id=some b:=by
   intro id b hb
   rcases hRB.lks hS (fun r hr=>hB r hr (hall r (by rw[hL];exact List.mem_append_right _ hr))) id b hb with h1|⟨r,h1,h2,h3,h4⟩
   ·exact hU1 id b h1
   ·rw[← h3,← h4];exact hU2 r h1 (hall r (by rw[hL];exact List.mem_append_right _ h1)) h2
  refine hq m' a' w' (hst'.weaken (fun id b hb=>⟨b,hsub id b hb,fun h=>h⟩) (fun id b _ hb=>hsub id b hb)) (fun t x hx=>?_) I.tmps I.defers
  have h1:=hrun.env (eget env) (fun _ _ h=>h) t x hx
  rw[foldE_same (q:=fun i=>listed.getD i false) (g:=eget env) (fun r hr _=>(hall r hr).symm) rfl]at h1
  exact henv t x h1
 ·have hfalse:∀ i,¬ (Array.replicate ops.size false).getD i false=true:=by
   intro i
   simp only[Array.getD_eq_getD_getElem?]
   by_cases hi:i<ops.size
   ·simp[hi]
   ·simp[hi]
  refine ⟨by simp,fun j o _ h1=>absurd h1 (hfalse j),hn,hd,m,[],L,S.lk,env,S,rfl,fun r hr=>(by cases hr),fun r _ h1=>absurd h1 (hfalse r.i),.inl rfl,.nil,hrun,fun id b hb i1 i2=>?_,fun id b hb=>hb,fun r _ h1=>absurd h1 (hfalse r.i),fun id i1 i2 i3=>absurd (hf id i1 i2) i3,?_,fun t x hx=>?_⟩
  ·obtain ⟨LL,h1,_⟩:=(hR.holds id b hb).loc
   rw[hf id i1 i2]at h1;cases h1
  ·exact (Step.drew (w':={ w with drawn:=w.drawn+1 }) hR rfl rfl rfl rfl).widen (Nat.le_refl _) (hrun.le hS)
  ·rw[foldE_none (fun r _ _=>Bool.eq_false_iff.2 (hfalse r.i))]at hx
   exact hE t x hx
 ·have:∀ (L:List Rec) (l:Array Bool),left l L≤L.length:=by
   intro L l
   induction L with
   | nil=>exact Nat.le_refl _
   | cons r L ih=>simp only[left,List.length_cons];split<;>omega
  have h2:=this L (Array.replicate ops.size false)
  rw[hb0,Array.length_toList]at h2
  exact h2
end
end Am
end
section
namespace Am
open Go
noncomputable section
inductive Box (α:Type) where
 | mk (a:α)
inductive Fin where
 | out (o:Out) (e:Env) (S:St)
 | bad (l:List Nat)
abbrev G:=Nat→T AV→St→Fin
abbrev H:=Code→Nat→G→G→G
inductive Fast where
 | no
 | yes (v r:Nat→T AV→St→Nat)
 | act (q:(H→G→G)→H→G→G)
def kcode (K:Known) (x:Operand):Nat:=Option.rec 1 (fun v=>ccap (enc v)) (evoT x K enew)
def ocB (K:Known):Operand→Box (Nat→Nat)
 | .tmp t=>.mk fun n=>Nat.mod (Nat.shiftRight n (Nat.mul 192 t)) 6277101735386680763835789423207666416102355444464034512896
 | .const v=>.mk fun _=>Nat.add (kcode K (.const v)) 0
 | .global g=>.mk fun _=>Nat.add (kcode K (.global g)) 0
 | .func f=>.mk fun _=>Nat.add (kcode K (.func f)) 0
def unB {α β:Type}(b:Box α) (f:α→β):β:=Box.rec f b
def gP:Nat→Nat→Box (T AV→Option AV)
 | 0,d=>.mk fun U=>U.get d
 | k+1,d=>unB (gP k (d / 4)) fun g=>match d % 4 with
   | 0=>.mk fun U=>T.rec (motive:=fun _=>Option AV) (fun v=>Bool.rec none v (Nat.beq d 0)) (fun a _ _ _ _ _ _ _=>g a) U
   | 1=>.mk fun U=>T.rec (motive:=fun _=>Option AV) (fun v=>Bool.rec none v (Nat.beq d 0)) (fun _ b _ _ _ _ _ _=>g b) U
   | 2=>.mk fun U=>T.rec (motive:=fun _=>Option AV) (fun v=>Bool.rec none v (Nat.beq d 0)) (fun _ _ c _ _ _ _ _=>g c) U
   | _=>.mk fun U=>T.rec (motive:=fun _=>Option AV) (fun v=>Bool.rec none v (Nat.beq d 0)) (fun _ _ _ e _ _ _ _=>g e) U
def pP:Nat→Nat→Box (Option AV→T AV→T AV)
 | 0,d=>.mk fun x U=>U.put x d
 | k+1,d=>unB (pP k (d / 4)) fun g=>match d % 4 with
   | 0=>.mk fun x U=>T.rec (motive:=fun _=>T AV) (fun v=>Bool.rec (.vl v) (.vl x) (Nat.beq d 0)) (fun a b c e _ _ _ _=>.nd (g x a) b c e) U
   | 1=>.mk fun x U=>T.rec (motive:=fun _=>T AV) (fun v=>Bool.rec (.vl v) (.vl x) (Nat.beq d 0)) (fun a b c e _ _ _ _=>.nd a (g x b) c e) U
   | 2=>.mk fun x U=>T.rec (motive:=fun _=>T AV) (fun v=>Bool.rec (.vl v) (.vl x) (Nat.beq d 0)) (fun a b c e _ _ _ _=>.nd a b (g x c) e) U
   | _=>.mk fun x U=>T.rec (motive:=fun _=>T AV) (fun v=>Bool.rec (.vl v) (.vl x) (Nat.beq d 0)) (fun a b c e _ _ _ _=>.nd a b c (g x e)) U
def dep (n:Nat):Nat:=Nat.succ (Nat.div (Nat.log2 n) 2)
def bxB (K:Known) (nt:Nat):Operand→Box (T AV→Option AV)
 | .tmp t=>gP (dep nt) t
 | .const v=>.mk fun _=>Option.rec (motive:=fun _=>Option AV) none (fun a=>some a) (evoT (.const v) K enew)
 | .global g=>.mk fun _=>Option.rec (motive:=fun _=>Option AV) none (fun a=>some a) (evoT (.global g) K enew)
 | .func f=>.mk fun _=>Option.rec (motive:=fun _=>Option AV) none (fun a=>some a) (evoT (.func f) K enew)
def pl (c:Nat):Nat:=Nat.div c 32
def vUn (c:Nat):Nat:=Nat.add (Nat.sub 2 (Nat.mod c 32)) (Nat.sub (Nat.mod c 32) 23)
def vI (c:Nat):Nat:=Nat.add (Nat.sub 4 (Nat.mod c 32)) (Nat.sub (Nat.mod c 32) 11)
def vII (a b:Nat):Nat:=Nat.add (Nat.mod (Nat.xor a b) 32) (vI a)
def xlim (g:Nat):Nat:=Nat.sub (Nat.shiftLeft 8 (Nat.mod g 4)) (Nat.sub 1 (Nat.div g 8))
def xbits (g:Nat):Nat:=Nat.shiftLeft 8 (Nat.mod g 4)
def vlim (a r:Nat):Nat:=Nat.shiftRight r (xlim (Nat.mod a 32))
def tagI (a r:Nat):Nat:=Nat.add (Nat.mul 32 r) (Nat.mod a 32)
def bitC (x:Nat):Nat:=Nat.add 2 (Nat.mul 32 x)
def eq01 (a b:Nat):Nat:=Nat.sub 1 (Nat.add (Nat.sub a b) (Nat.sub b a))
def le01 (a b:Nat):Nat:=Nat.sub 1 (Nat.sub a b)
def lo2 (a b:Nat):Nat:=Nat.sub a (Nat.sub a b)
def fAdd (f g:Nat→Nat):Fast:=.yes (fun n _ _=>Nat.add (vII (f n) (g n)) (vlim (f n) (Nat.add (pl (f n)) (pl (g n))))) (fun n _ _=>tagI (f n) (Nat.add (pl (f n)) (pl (g n))))
def fSub (f g:Nat→Nat):Fast:=.yes (fun n _ _=>Nat.add (Nat.add (vII (f n) (g n)) (Nat.sub (pl (g n)) (pl (f n)))) (vlim (f n) (Nat.sub (pl (f n)) (pl (g n))))) (fun n _ _=>tagI (f n) (Nat.sub (pl (f n)) (pl (g n))))
def fMul (f g:Nat→Nat):Fast:=.yes (fun n _ _=>Nat.add (vII (f n) (g n)) (vlim (f n) (Nat.mul (pl (f n)) (pl (g n))))) (fun n _ _=>tagI (f n) (Nat.mul (pl (f n)) (pl (g n))))
def fQuo (f g:Nat→Nat):Fast:=.yes (fun n _ _=>Nat.add (Nat.add (vII (f n) (g n)) (Nat.sub 1 (pl (g n)))) (vlim (f n) (Nat.div (pl (f n)) (pl (g n))))) (fun n _ _=>tagI (f n) (Nat.div (pl (f n)) (pl (g n))))
def fRem (f g:Nat→Nat):Fast:=.yes (fun n _ _=>Nat.add (Nat.add (vII (f n) (g n)) (Nat.sub 1 (pl (g n)))) (vlim (f n) (Nat.mod (pl (f n)) (pl (g n))))) (fun n _ _=>tagI (f n) (Nat.mod (pl (f n)) (pl (g n))))
def vbit (a b:Nat):Nat:=Nat.add (vII a b) (Nat.shiftRight (Nat.lor (pl a) (pl b)) (xbits (Nat.mod a 32)))
def fAnd (f g:Nat→Nat):Fast:=.yes (fun n _ _=>Nat.add (vbit (f n) (g n)) (vlim (f n) (Nat.land (pl (f n)) (pl (g n))))) (fun n _ _=>tagI (f n) (Nat.land (pl (f n)) (pl (g n))))
def fOr (f g:Nat→Nat):Fast:=.yes (fun n _ _=>Nat.add (vbit (f n) (g n)) (vlim (f n) (Nat.lor (pl (f n)) (pl (g n))))) (fun n _ _=>tagI (f n) (Nat.lor (pl (f n)) (pl (g n))))
def fXor (f g:Nat→Nat):Fast:=.yes (fun n _ _=>Nat.add (vbit (f n) (g n)) (vlim (f n) (Nat.xor (pl (f n)) (pl (g n))))) (fun n _ _=>tagI (f n) (Nat.xor (pl (f n)) (pl (g n))))
def fShl (f g:Nat→Nat):Fast:=.yes (fun n _ _=>Nat.add (Nat.add (vI (f n)) (vI (g n))) (vlim (f n) (Nat.shiftLeft (pl (f n)) (lo2 (pl (g n)) (xbits (Nat.mod (f n) 32)))))) (fun n _ _=>tagI (f n) (Nat.shiftLeft (pl (f n)) (lo2 (pl (g n)) (xbits (Nat.mod (f n) 32)))))
def fShr (f g:Nat→Nat):Fast:=.yes (fun n _ _=>Nat.add (Nat.add (vI (f n)) (vI (g n))) (vlim (f n) (Nat.shiftRight (pl (f n)) (lo2 (pl (g n)) (xbits (Nat.mod (f n) 32)))))) (fun n _ _=>tagI (f n) (Nat.shiftRight (pl (f n)) (lo2 (pl (g n)) (xbits (Nat.mod (f n) 32)))))
def fCmp (c:Nat→Nat→Nat) (f g:Nat→Nat):Fast:=.yes (fun n _ _=>vII (f n) (g n)) (fun n _ _=>bitC (c (pl (f n)) (pl (g n))))
def fEql (f g:Nat→Nat):Fast:=fCmp (fun a b=>eq01 a b) f g
def fNeq (f g:Nat→Nat):Fast:=fCmp (fun a b=>Nat.sub 1 (eq01 a b)) f g
def fLss (f g:Nat→Nat):Fast:=fCmp (fun a b=>le01 (Nat.succ a) b) f g
def fLeq (f g:Nat→Nat):Fast:=fCmp (fun a b=>le01 a b) f g
def fGtr (f g:Nat→Nat):Fast:=fCmp (fun a b=>le01 (Nat.succ b) a) f g
def fGeq (f g:Nat→Nat):Fast:=fCmp (fun a b=>le01 b a) f g
def fBin:BinOp→(Nat→Nat)→(Nat→Nat)→Fast
 | .add,f,g=>fAdd f g | .sub,f,g=>fSub f g | .mul,f,g=>fMul f g | .quo,f,g=>fQuo f g | .rem,f,g=>fRem f g
 | .and,f,g=>fAnd f g | .or,f,g=>fOr f g | .xor,f,g=>fXor f g | .shl,f,g=>fShl f g | .shr,f,g=>fShr f g
 | .eql,f,g=>fEql f g | .neq,f,g=>fNeq f g | .lss,f,g=>fLss f g | .leq,f,g=>fLeq f g | .gtr,f,g=>fGtr f g | .geq,f,g=>fGeq f g
 | _,_,_=>.no
def ubd (P:Program) (t:TypeId):Bool:=match und P t with
 | some (.int _)=>true
 | some .bool=>true
 | some (.pointer _)=>true
 | some (.slice _)=>true
 | some (.map _ _)=>true
 | _=>false
def nz (c:Nat):Nat:=Nat.mul c (Nat.sub 1 (Nat.sub 2 c))
def inD (nt:Nat) (d:Option Tmp) (f:Tmp→(Option AV→T AV→T AV)→Fast):Fast:=
 match d with
 | some d=>cnd (Nat.blt d nt) (unB (pP (dep nt) d) fun p=>f d p) .no
 | none=>.no
def fMove (P:Program) (nt:Nat) (ty:TypeId) (d:Option Tmp) (f:Nat→Nat) (g:T AV→Option AV):Fast:=
 inD nt d fun d p=>cnd (ubd P ty) (.act fun _ _ k n U S=>k (pset n d (nz (f n))) U S) (.act fun _ _ k n U S=>k (pset n d (f n)) (Bool.rec U (p (g U) U) (Nat.beq (f n) 1)) S)
def vB (c:Nat):Nat:=Nat.add (Nat.xor (Nat.mod c 32) 2) (Nat.sub (Nat.div c 32) 1)
def fPick (c f g:Nat→Nat):Fast:=.yes (fun n _ _=>Nat.add (vB (c n)) (vUn (Bool.rec (g n) (f n) (Nat.beq (c n) 34)))) (fun n _ _=>Bool.rec (g n) (f n) (Nat.beq (c n) 34))
def fNot (f:Nat→Nat):Fast:=.yes (fun n _ _=>vB (f n)) (fun n _ _=>Nat.sub 36 (f n))
def vP (c:Nat):Nat:=Nat.xor (Nat.mod c 32) 3
def fNil (f:Nat→Nat):Fast:=.yes (fun n _ _=>vP (f n)) (fun n _ _=>f n)
def isSl (P:Program) (t:TypeId):Nat:=match und P t with
 | some (.slice _)=>0
 | _=>1
def lenC (c:Nat):Nat:=tagd 7 (Nat.mul (Nat.mod (Nat.shiftRight c 69) 4294967296) (Nat.sub 1 (Nat.sub 1 (Nat.sub (Nat.mod c 32) 17))))
def fLen (P:Program) (t:TypeId) (f:Nat→Nat):Fast:=.yes (fun n _ _=>Nat.add (isSl P t) (Nat.add (Nat.sub 17 (Nat.mod (f n) 32)) (Nat.sub (Nat.mod (f n) 32) 19))) (fun n _ _=>lenC (f n))
def fdo (P:Program) (s:TypeId) (f:Nat):Nat:=match und P s with
 | some (.struct fs)=>match nth fs.toList f with
   | some fd=>match szo P fd.type with
     | some n=>bif Nat.beq n 0 then 0 else Nat.succ fd.offset
     | none=>0
   | none=>0
 | _=>0
def fdaC (c o:Nat):Nat:=Nat.add c (Nat.shiftLeft o 37)
def fFda (P:Program) (s:TypeId) (f:Nat→Nat) (i:Nat):Fast:=.yes (fun n _ _=>Nat.add (vP (f n)) (Nat.add (Nat.sub 1 (fdo P s i)) (Nat.div (fdaC (f n) (Nat.pred (fdo P s i))) big))) (fun n _ _=>fdaC (f n) (Nat.pred (fdo P s i)))
def ixs (P:Program) (t:TypeId):Nat:=match und P t with
 | some (.slice e)=>match szo P e with
   | some s=>Nat.succ s
   | none=>0
 | _=>0
def eC (c:Nat):Nat:=Nat.mod (Nat.shiftRight c 101) 65536
def ixaC (c i:Nat):Nat:=tagd 3 (p32 (m32 (pl c)) (Nat.add (m32 (d32 (pl c))) (Nat.mul i (eC c))))
def vIx (s c i:Nat):Nat:=Nat.add (Nat.add (Nat.sub 18 (Nat.mod c 32)) (Nat.sub (Nat.mod c 32) 19)) (Nat.add (Nat.add (vI i) (Nat.sub (Nat.succ (pl i)) (Nat.mod (Nat.shiftRight c 69) 4294967296))) (Nat.add (Nat.add (Nat.sub 1 s) (Nat.sub s (Nat.succ (eC c)))) (Nat.sub (Nat.succ (eC c)) s)))
def fIxa (P:Program) (t:TypeId) (f g:Nat→Nat):Fast:=.yes (fun n _ _=>Nat.add (vIx (ixs P t) (f n) (g n)) (Nat.div (ixaC (f n) (pl (g n))) big)) (fun n _ _=>ixaC (f n) (pl (g n)))
def oneCell (P:Program) (t:TypeId):Nat:=match und P t,szo P t with
 | some d,some _=>bif isA d then 1 else 0
 | _,_=>1
def ldC (S:St) (i o:Nat):Nat:=Option.rec 0 (fun b=>Blk.rec (motive:=fun _=>Nat→Nat) (fun _ cs _ _ o=>Option.rec 0 (fun a=>enc a) (nth cs o)) (fun _ _ _=>0) (fun _ _ _ _=>0) b o) (S.h.get i)
def fLoad (P:Program) (t:TypeId) (f:Nat→Nat):Fast:=.yes (fun n _ S=>Nat.add (Nat.add (vP (f n)) (oneCell P t)) (Nat.add (vUn (ldC S (m32 (pl (f n))) (d32 (pl (f n))))) (Nat.div (ldC S (m32 (pl (f n))) (d32 (pl (f n)))) big))) (fun n _ S=>ldC S (m32 (pl (f n))) (d32 (pl (f n))))
def cvk (P:Program) (s d:TypeId):Nat:=match und P s,und P d with
 | some _,some (.int k)=>Nat.add 4 (kidx k)
 | _,_=>0
def fConv (P:Program) (s d:TypeId) (f:Nat→Nat):Fast:=.yes (fun n _ _=>Nat.add (vI (f n)) (Nat.add (Nat.sub 1 (cvk P s d)) (Nat.shiftRight (pl (f n)) (xlim (cvk P s d))))) (fun n _ _=>tagd (cvk P s d) (pl (f n)))
def isSt (P:Program) (t:TypeId):Nat:=match und P t with
 | some .string=>0
 | _=>1
def avS (v:AV) (f:Nat→Nat→Nat):Nat:=
 AV.rec (motive_1:=fun _=>(Nat→Nat→Nat)→Nat) (motive_2:=fun _=>Unit) (fun _ _=>0) (fun _ _ _=>0) (fun n x f=>f n x) (fun _ _ _=>0) (fun _=>0) (fun _ _ _ _ _ _ _=>0) (fun _=>0) (fun _ _=>0) (fun _=>0) (fun _ _ _ _ _ _=>0) (fun _=>0) (fun _ _ _ _=>0) (fun _=>0) (fun _ _ _=>0) (fun _ _ _=>0) (fun _ _=>0) ⟨⟩ (fun _ _ _ _=>⟨⟩) v f
def strL (x:Option AV):Nat:=Option.rec 0 (fun v=>avS v fun n _=>Nat.succ n) x
def strI (x:Option AV) (i:Nat):Nat:=Option.rec 0 (fun v=>avS v fun n x=>Bool.rec 0 (Nat.succ (Nat.mod (Nat.shiftRight x (Nat.mul 8 i)) 256)) (Nat.ble (Nat.succ i) n)) x
def strE (x y:Option AV):Nat:=Option.rec 0 (fun v=>Option.rec 0 (fun u=>avS v fun n x=>avS u fun k y=>Nat.succ (Nat.mul (eq01 n k) (eq01 x y))) y) x
def fLenS (P:Program) (t:TypeId) (f:Nat→Nat) (g:T AV→Option AV):Fast:=.yes (fun n U _=>Nat.add (isSt P t) (Nat.add (Nat.xor (f n) 1) (Nat.add (Nat.sub 1 (strL (g U))) (Nat.div (strL (g U)) 18446744073709551616)))) (fun _ U _=>tagd 7 (Nat.pred (strL (g U))))
def fIdxS (P:Program) (t:TypeId) (f:Nat→Nat) (g:T AV→Option AV) (h:Nat→Nat):Fast:=.yes (fun n U _=>Nat.add (Nat.add (isSt P t) (vI (h n))) (Nat.add (Nat.xor (f n) 1) (Nat.sub 1 (strI (g U) (pl (h n)))))) (fun n U _=>tagd 8 (Nat.pred (strI (g U) (pl (h n)))))
def fStrE (c:Nat→Nat) (f:Nat→Nat) (g:T AV→Option AV) (f':Nat→Nat) (g':T AV→Option AV):Fast:=.yes (fun n U _=>Nat.add (Nat.add (Nat.xor (f n) 1) (Nat.xor (f' n) 1)) (Nat.sub 1 (strE (g U) (g' U)))) (fun n U _=>bitC (c (Nat.pred (strE (g U) (g' U)))))
def vNp (c:Nat):Nat:=Nat.mul (Nat.xor (Nat.mod c 32) 3) (Nat.xor (Nat.mod c 32) 16)
def vNs (c:Nat):Nat:=Nat.add (Nat.sub 17 (Nat.mod c 32)) (Nat.sub (Nat.mod c 32) 19)
def vNm (c:Nat):Nat:=Nat.add (Nat.sub 20 (Nat.mod c 32)) (Nat.sub (Nat.mod c 32) 21)
def isN (g c:Nat):Nat:=eq01 (Nat.mod c 32) g
def fNils (vN:Nat→Nat) (g:Nat) (c:Nat→Nat) (f f':Nat→Nat):Fast:=
 .yes (fun n _ _=>Nat.add (Nat.add (vN (f n)) (vN (f' n))) (Nat.mul (Nat.sub 1 (isN g (f n))) (Nat.sub 1 (isN g (f' n))))) (fun n _ _=>bitC (c (Nat.mul (isN g (f n)) (isN g (f' n)))))
def fEq (P:Program) (K:Known) (nt:Nat) (op:BinOp) (c:Nat→Nat) (t:TypeId) (x y:Operand):Fast:=
 unB (ocB K x) fun f=>unB (ocB K y) fun f'=>match und P t with
  | some .string=>unB (bxB K nt x) fun g=>unB (bxB K nt y) fun g'=>fStrE c f g f' g'
  | some (.pointer _)=>fNils (fun c=>vNp c) 16 c f f'
  | some (.slice _)=>fNils (fun c=>vNs c) 17 c f f'
  | some (.map _ _)=>fNils (fun c=>vNm c) 20 c f f'
  | _=>fBin op f f'
def one1 (P:Program) (t:TypeId):Nat:=match szo P t with
 | some n=>Nat.add (Nat.sub n 1) (Nat.sub 1 n)
 | none=>1
def valC (c:Nat):AV:=Option.rec .np (fun a=>a) (dec c none)
def stB:Blk→Nat→St→Nat→Nat→AV→Option St:=
 Blk.rec (motive:=fun _=>Nat→St→Nat→Nat→AV→Option St) (fun t cs fz ex g S id off v=>Bool.rec none (some ⟨S.h.put (some (.cells t (putR off [v] cs) fz ex)) id,S.nx⟩) (Nat.beq (Nat.add (Nat.sub g id) (Nat.add (Nat.sub fz off) (Nat.sub (Nat.succ off) (len cs)))) 0)) (fun _ _ _ _ _ _ _=>none) (fun _ _ _ _ _ _ _ _=>none)
def fStore (P:Program) (K:Known) (t:TypeId) (f f':Nat→Nat):Fast:=
 .act fun m ih k n U S=>Bool.rec (m ih k n U S) (Option.rec (m ih k n U S) (fun S'=>k n U S') (ob (S.h.get (m32 (pl (f n)))) fun b=>stB b K.g S (m32 (pl (f n))) (d32 (pl (f n))) (valC (f' n)))) (Nat.beq (Nat.add (Nat.add (vP (f n)) (one1 P t)) (vUn (f' n))) 0)
def tupN (x:Option AV) (i:Nat):Option AV:=ob (ob x atpN) fun l=>nth l i
def fExt (d:Tmp) (p:Option AV→T AV→T AV) (f:Nat→Nat) (g:T AV→Option AV) (i:Nat):Fast:=
 .act fun m ih k n U S=>Bool.rec (m ih k n U S) (Option.rec (m ih k n U S) (fun a=>k (pset n d (ccap (enc a))) (Bool.rec U (p (some a) U) (Nat.beq (ccap (enc a)) 1)) S) (tupN (g U) i)) (Nat.beq (f n) 1)
def fNew (P:Program) (K:Known) (d:Tmp) (p:Option AV→T AV→T AV) (o:Op):Fast:=
 .act fun m ih k n U S=>Option.rec (.bad [12]) (fun q=>Prod.rec (motive:=fun _=>Fin) (fun b f=>Bool.rec (.bad [13]) (k (pset n d (ccap (enc (f S.nx)))) (Bool.rec U (p (some (f S.nx)) U) (Nat.beq (ccap (enc (f S.nx))) 1)) ⟨S.h.put (some b) S.nx,Nat.succ S.nx⟩) (Nat.ble K.g S.nx)) q) (aalloc P (evo K ⟨n,U⟩) o)
def fast (P:Program) (K:Known) (nt:Nat) (ty:TypeId) (d:Option Tmp):Op→Fast
 | .move x=>unB (ocB K x) fun f=>unB (bxB K nt x) fun g=>fMove P nt ty d f g
 | .assign x=>unB (ocB K x) fun f=>unB (bxB K nt x) fun g=>fMove P nt ty d f g
 | .pick c a b=>unB (ocB K c) fun h=>unB (ocB K a) fun f=>unB (ocB K b) fun g=>fPick h f g
 | .nilCheck x=>unB (ocB K x) fun f=>fNil f
 | .binOp op t x y _=>match op with
   | .eql=>fEq P K nt .eql (fun x=>x) t x y
   | .neq=>fEq P K nt .neq (fun x=>Nat.sub 1 x) t x y
   | op=>unB (ocB K x) fun f=>unB (ocB K y) fun g=>fBin op f g
 | .unOp op _ x=>match op with
   | .not=>unB (ocB K x) fun f=>fNot f
   | _=>.no
 | .convert s d x=>unB (ocB K x) fun f=>fConv P s d f
 | .fieldAddr s x i=>unB (ocB K x) fun f=>fFda P s f i
 | .indexAddr t x i=>unB (ocB K x) fun f=>unB (ocB K i) fun g=>fIxa P t f g
 | .index t x i=>unB (ocB K x) fun f=>unB (bxB K nt x) fun g=>unB (ocB K i) fun h=>fIdxS P t f g h
 | .load t x=>unB (ocB K x) fun f=>fLoad P t f
 | .store t x v=>match d with
   | none=>unB (ocB K x) fun f=>unB (ocB K v) fun f'=>fStore P K t f f'
   | some _=>.no
 | .extract x i=>unB (ocB K x) fun f=>unB (bxB K nt x) fun g=>inD nt d fun d p=>fExt d p f g i
 | .alloc t=>inD nt d fun d p=>fNew P K d p (.alloc t)
 | .box t x=>inD nt d fun d p=>fNew P K d p (.box t x)
 | .buildSlice t n l=>inD nt d fun d p=>fNew P K d p (.buildSlice t n l)
 | .makeSlice t x y=>inD nt d fun d p=>fNew P K d p (.makeSlice t x y)
 | .makeMap t x=>inD nt d fun d p=>fNew P K d p (.makeMap t x)
 | .call c=>match c.callee with
   | .builtin .len=>match c.args.toList,c.argTypes.toList with
     | [x],[t]=>unB (ocB K x) fun f=>match und P t with
       | some .string=>unB (bxB K nt x) fun g=>fLenS P t f g
       | _=>fLen P t f
     | _,_=>.no
   | _=>.no
 | _=>.no
def noIh:IH:=fun _ _ _ _=>.bad [1]
def aft (x:Option Env) (k:G) (S:St):Fin:=Option.rec (.bad [2]) (fun e=>Env.rec (motive:=fun _=>Fin) (fun n t=>k n t S) e) x
def mid (P:Program) (K:Known) (nt:Nat) (dst:Option Tmp) (op:Op):H→G→G:=
 fun _ k n t S=>Cl.rec (motive:=fun _=>Fin) (fun v S'=>aft (aput nt ⟨n,t⟩ dst v) k S') (fun l=>.bad (3 :: nt :: Option.rec 777 (fun d=>d) dst :: l)) (aop P K noIh S (evo K ⟨n,t⟩) op)
def quick (d:Tmp) (v r:Nat→T AV→St→Nat) (m:H→G→G):H→G→G:=
 fun ih k n t S=>Bool.rec (m ih k n t S) (k (pset n d (r n t S)) t S) (Nat.beq (v n t S) 0)
def rk (P:Program) (K:Known) (fn:Func) (kv:AV→St→Fin):G:=fun n t S=>Option.rec (.bad [4]) (fun v=>kv v S) (ares P K ⟨n,t⟩ S fn.results.toList)
def crun (P:Program) (K:Known) (ih:H) (S:St) (f:FuncId) (as:List AV) (kv:AV→St→Fin):Fin:=
 cnd (K.enter f) (Option.rec (.bad [5,f]) (fun fn=>Option.rec (.bad [6,f]) (fun c=>cnd (Nat.ble (len as) fn.ntmps) (Env.rec (motive:=fun _=>Fin) (fun n t=>ih c fn.ntmps (rk P K fn kv) (rk P K fn kv) n t S) (ienv as 0 enew)) (.bad [7,f])) fn.body) (fnc P f))
  (Option.rec (.bad [8,f]) (fun p=>Prod.rec (motive:=fun _=>Fin) (fun v S'=>kv v S') p) (aext P K S f as))
def gcall (P:Program) (K:Known) (nt:Nat) (dst:Option Tmp) (op:Op):H→G→G:=
 fun ih k n t S=>Option.rec (.bad [9]) (fun p=>Prod.rec (motive:=fun _=>Fin) (fun f as=>crun P K ih S f as (fun v S'=>aft (aput nt ⟨n,t⟩ dst v) k S')) p) (acallee (evo K ⟨n,t⟩) op)
def argN (K:Known):List Operand→Nat→Box (Nat→Nat→Nat)
 | [],_=>.mk fun _ a=>a
 | x :: l,i=>unB (ocB K x) fun f=>unB (argN K l (Nat.succ i)) fun g=>.mk fun n a=>g n (pset a i (f n))
def argT (K:Known) (nt nt':Nat):List Operand→Nat→Box (Nat→T AV→T AV→T AV)
 | [],_=>.mk fun _ _ u=>u
 | x :: l,i=>unB (ocB K x) fun f=>unB (bxB K nt x) fun b=>unB (pP (dep nt') i) fun p=>unB (argT K nt nt' l (Nat.succ i)) fun g=>.mk fun n t u=>g n t (Bool.rec u (p (b t) u) (Nat.beq (f n) 1))
def kret (d r:Tmp) (g:T AV→Option AV) (p:Option AV→T AV→T AV) (k:G) (n:Nat) (t:T AV):G:=fun n' t' S'=>k (pset n d (slot n' r)) (Bool.rec t (p (g t') t) (Nat.beq (slot n' r) 1)) S'
def fcall1 (c:Code) (nt':Nat) (d r:Tmp) (g:T AV→Option AV) (p:Option AV→T AV→T AV) (a:Nat→Nat→Nat) (b:Nat→T AV→T AV→T AV):H→G→G:=
 fun ih k n t S=>ih c nt' (kret d r g p k n t) (kret d r g p k n t) (a n 0) (b n t (full AV (dep nt'))) S
def fcallG (P:Program) (K:Known) (nt:Nat) (c:Code) (fn:Func) (dst:Option Tmp) (a:Nat→Nat→Nat) (b:Nat→T AV→T AV→T AV):H→G→G:=
 fun ih k n t S=>ih c fn.ntmps (rk P K fn (fun v S'=>aft (aput nt ⟨n,t⟩ dst v) k S')) (rk P K fn (fun v S'=>aft (aput nt ⟨n,t⟩ dst v) k S')) (a n 0) (b n t (full AV (dep fn.ntmps))) S
def fcall (P:Program) (K:Known) (nt:Nat) (dst:Option Tmp) (f:FuncId) (args:List Operand) (m:H→G→G):Box (H→G→G):=
 match K.enter f,fnc P f with
 | true,some fn=>match fn.body with
   | some c=>cnd (Nat.ble (len args) fn.ntmps) (unB (argN K args 0) fun a=>unB (argT K nt fn.ntmps args 0) fun b=>
    match dst,fn.results.toList with
    | some d,[.tmp r]=>cnd (Nat.blt d nt) (unB (gP (dep fn.ntmps) r) fun g=>unB (pP (dep nt) d) fun p=>.mk (fcall1 c fn.ntmps d r g p a b)) (.mk m)
    | _,_=>.mk (fcallG P K nt c fn dst a b)) (.mk m)
   | none=>.mk m
 | _,_=>.mk m
def cop1 (P:Program) (K:Known) (nt:Nat) (ty:TypeId) (dst:Option Tmp) (op:Op):Box (H→G→G):=
 match fast P K nt ty dst op with
 | .yes v r=>match dst with
   | some d=>cnd (Nat.blt d nt) (.mk (quick d v r (mid P K nt dst op))) (.mk (mid P K nt dst op))
   | none=>.mk (mid P K nt dst op)
 | .act q=>.mk (q (mid P K nt dst op))
 | .no=>match op with
   | .call c=>match c.callee with
     | .value x=>match x with
       | .func f=>fcall P K nt dst f c.args.toList (gcall P K nt dst op)
       | _=>.mk (gcall P K nt dst op)
     | _=>.mk (mid P K nt dst op)
   | _=>.mk (mid P K nt dst op)
def gd (P:Program) (K:Known) (nt:Nat) (all:List Oper) (o:Oper) (f:H→G→G):H→G→G:=
 fun ih k n t S=>Option.rec (.bad [10]) (fun b=>Bool.rec (aft (aput nt ⟨n,t⟩ o.dst (.tp [])) k S) (f ih k n t S) b) (awant all ⟨n,t⟩ o)
def gtmp (all:List Oper) (j:Nat):Option Tmp:=match nth all j with
 | some oj=>oj.dst
 | none=>none
def skp (nt:Nat) (dst:Option Tmp):H→G→G:=
 match dst with
 | some d=>cnd (Nat.blt d nt) (unB (pP (dep nt) d) fun p=>fun _ k n t S=>k (pset n d 1) (p (some (.tp [])) t) S) (fun _ _ _ _ _=>.bad [14])
 | none=>fun _ k n t S=>k n t S
def gdq (g:Tmp) (yes no:Nat) (f s m:H→G→G):H→G→G:=
 fun ih k n t S=>Bool.rec (Bool.rec (m ih k n t S) (s ih k n t S) (Nat.beq (Nat.mod (Nat.shiftRight n (Nat.mul 192 g)) 6277101735386680763835789423207666416102355444464034512896) no)) (f ih k n t S) (Nat.beq (Nat.mod (Nat.shiftRight n (Nat.mul 192 g)) 6277101735386680763835789423207666416102355444464034512896) yes)
def cop (P:Program) (K:Known) (nt:Nat) (all:List Oper) (o:Oper):Box (H→G→G):=
 match o.guard with
 | none=>cop1 P K nt o.type o.dst o.op
 | some (j,w)=>unB (cop1 P K nt o.type o.dst o.op) fun f=>match gtmp all j with
   | some g=>.mk (gdq g (cnd w 34 2) (cnd w 2 34) f (skp nt o.dst) (gd P K nt all o f))
   | none=>.mk (gd P K nt all o f)
def cops (P:Program) (K:Known) (nt:Nat) (all:List Oper):List Oper→Box (H→G→G)
 | []=>.mk fun _ k n t S=>k n t S
 | o :: l=>unB (cop P K nt all o) fun f=>unB (cops P K nt all l) fun g=>.mk fun ih k n t S=>f ih (g ih k) n t S
def dih (ih:H):IH:=fun c nt env S=>Fin.rec (motive:=fun _=>Ex) (fun o e S=>.ok o e S) (fun l=>.bad l) (ih c nt (fun n t S=>.out .norm ⟨n,t⟩ S) (fun n t S=>.out .ret ⟨n,t⟩ S) env.n env.t S)
def cdraw (draw:Draw) (nt id:Nat) (ops:Array Oper):H→G→G:=
 fun ih k n t S=>Rg.rec (motive:=fun _=>Fin) (fun e S'=>Env.rec (motive:=fun _=>Fin) (fun n t=>k n t S') e) (fun l=>.bad (11 :: l)) (draw (dih ih) ops nt id ⟨n,t⟩ S)
abbrev C:=H→G→G→(Nat→G)→G
def done (k:G):G:=fun n t S=>T.rec (motive:=fun _=>Fin) (fun v=>k n (.vl v) S) (fun a b c d _ _ _ _=>k n (.nd a b c d) S) t
def cloop (q:C) (ih:H) (kR:G) (kE:Nat→G):Nat→G:=Nat.rec (motive:=fun _=>G) (fun _ _ _=>.bad [998]) (fun _ again=>q ih (done again) kR kE)
def rounds:Nat:=1000000
def cc (P:Program) (K:Known) (draw:Draw) (nt:Nat):Code→Box C
 | .skip=>.mk fun _ kN _ _ n t S=>kN n t S
 | .region id ops d=>match d with
   | true=>.mk fun ih kN _ _ n t S=>cdraw draw nt id ops ih kN n t S
   | false=>unB (cops P K nt ops.toList ops.toList) fun f=>.mk fun ih kN _ _ n t S=>f ih kN n t S
 | .seq a b=>unB (cc P K draw nt a) fun f=>unB (cc P K draw nt b) fun g=>.mk fun ih kN kR kE n t S=>f ih (g ih kN kR kE) kR kE n t S
 | .cond x a b=>unB (ocB K x) fun h=>unB (cc P K draw nt a) fun f=>unB (cc P K draw nt b) fun g=>.mk fun ih kN kR kE n t S=>Bool.rec (Bool.rec (.bad [888]) (g ih kN kR kE n t S) (Nat.beq (h n) 2)) (f ih kN kR kE n t S) (Nat.beq (h n) 34)
 | .block id b=>unB (cc P K draw nt b) fun f=>.mk fun ih kN kR kE n t S=>f ih kN kR (fun i=>Bool.rec (kE i) kN (Nat.beq i id)) n t S
 | .loop b=>unB (cc P K draw nt b) fun f=>.mk fun ih kN kR kE n t S=>cloop f ih kR kE rounds n t S
 | .exit id=>.mk fun _ _ _ kE n t S=>kE id n t S
 | .ret=>.mk fun _ _ kR _ n t S=>kR n t S
 | _=>.mk fun _ _ _ _ _ _ _=>.bad [889]
def hN (P:Program) (K:Known) (draw:Draw):Nat→H:=
 Nat.rec (motive:=fun _=>H) (fun _ _ _ _ _ _ _=>.bad [999]) (fun _ ih c nt kN kR n t S=>unB (cc P K draw nt c) fun q=>q ih kN kR (fun i _ _ _=>.bad [997,i]) n t S)
end
end Am
end
