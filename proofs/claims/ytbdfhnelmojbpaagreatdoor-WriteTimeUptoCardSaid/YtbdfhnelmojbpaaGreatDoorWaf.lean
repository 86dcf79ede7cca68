/- A machine for closed runs: the machine is sound, but for what a region that draws asks. No program in sight. -/
import Derived.Test.YtbdfhnelmojbpaaGreatDoorWae
set_option linter.unusedVariables false
set_option linter.unusedSimpArgs false
section
namespace Am
open Go
noncomputable section
variable {P:Program}{K:Known}
theorem aextern_le {S S':St}{k:Nat}{as:List AV}{r:AV}(h:aextern P K S k as=some (r,S')):S.nx≤S'.nx:=by
 unfold aextern at h
 split at h
 ·rename_i n x c
  cases hb:Nat.blt c 256 with
  | false=>rw[hb]at h;cases h
  | true=>rw[hb,cond_true]at h;obtain ⟨_,rfl⟩:=Prod.mk.inj (Option.some.inj h);exact Nat.le_refl _
 ·obtain ⟨_,rfl⟩:=Prod.mk.inj (Option.some.inj h);exact Nat.le_refl _
 ·split at h
  ·rename_i n _ e _
   cases hb:(Nat.ble K.g S.nx && Nat.ble n 1073741824)with
   | false=>rw[hb]at h;cases h
   | true=>rw[hb,cond_true]at h;obtain ⟨_,rfl⟩:=Prod.mk.inj (Option.some.inj h);exact Nat.le_succ _
  ·cases h
 ·cases h
theorem Step.below {g:Nat}{m:Map}{lk:Lk}{nx:Nat}{w w':World}(hR:R lk m w) (hb:Go.RowKit.Below w.heap.size w w'):Step g m lk nx w m lk nx w':=
 ⟨fun _ _ h=>h,fun _ _ h=>.inl h,Nat.le_refl _,⟨fun id b hid=>by
  obtain ⟨L,h1,h2⟩:=(hR.holds id b hid).loc
  exact (hR.holds id b hid).mono (fun _ _ h=>h) (fun L' h'=>by
   rw[h1]at h'
   obtain rfl:=Option.some.inj h'
   exact hb.block _ h2),hR.inj⟩,hb.os,hb.tape,hb.output,hb.size,fun k hk _=>hb.block k hk,fun id blk L h1 h2 h3=>.inr ⟨id,blk,L,h1,h2,h3,rfl⟩,fun _ _ _ h=>h,fun _ b h=>.inl ⟨b,h⟩⟩
def Got (K:Known) (m:Map) (S:St) (w:World) (S':St) (r:AV) (e:Ending) (w':World):Prop:=
 ∃ m' v,e=.returned v∧cvo m' r=some v∧Step K.g m S.lk S.nx w m' S'.lk S'.nx w'
theorem aext_le {S S':St}{f:FuncId}{as:List AV}{r:AV}(h:aext P K S f as=some (r,S')):S.nx≤S'.nx:=by
 unfold aext at h
 split at h
 ·rename_i p hp
  obtain rfl:=Option.some.inj h
  exact aextern_le hp
 ·split at h
  ·obtain ⟨_,rfl⟩:=Prod.mk.inj (Option.some.inj h);exact Nat.le_refl _
  ·cases h
theorem aext_ok (hK:KnownOk P K) {m:Map}{S S':St}{w:World}(hR:R S.lk m w) (hG:Gl K m) (hf:Fre m S.nx S'.nx) {f:FuncId}{as:List AV}{args:List Value}{r:AV}(he:K.enter f=false) (h:aext P K S f as=some (r,S')) (ha:cvs m as=some args) :
 ((∀ args w,(callFunc f args).run P w=.ok (.enter f args) w)∧Calls P f args.toArray w (Got K m S w S' r))∨(∃ m' w' v,(callFunc f args.toArray).run P w=.ok (.value v) w'∧cvo m' r=some v∧Step K.g m S.lk S.nx w m' S'.lk S'.nx w'):=by
 unfold aext at h
 split at h
 ·rename_i p hp
  obtain rfl:=Option.some.inj h
  exact .inr (aextern_ok hK hR hf he hp ha)
 ·split at h
  ·rename_i v hv
   obtain ⟨rfl,rfl⟩:=Prod.mk.inj (Option.some.inj h)
   obtain ⟨h1,h2⟩:=hK.con f he as S v hv
   obtain ⟨u,h3,h4⟩:=h2 m w args hR hG ha
   refine .inl ⟨h1,Calls.mono h4 ?_⟩
   rintro e w' ⟨rfl,hb⟩
   exact ⟨m,u,rfl,h3,Step.below hR hb⟩
  ·cases h
theorem acallf_ok (hK:KnownOk P K) {ih:Code→Nat→Env→St→Ex}(hS:Sound P K ih) {S S':St}{f:FuncId}{as:List AV}{r:AV}(h:acallf P K ih S f as=.ok r S') :
 S.nx≤S'.nx∧∀ m w args,R S.lk m w→Fre m S.nx S'.nx→Gl K m→cvs m as=some args →
  ((∀ args w,(callFunc f args).run P w=.ok (.enter f args) w)∧Calls P f args.toArray w (Got K m S w S' r))∨(∃ m' w' v,(callFunc f args.toArray).run P w=.ok (.value v) w'∧cvo m' r=some v∧Step K.g m S.lk S.nx w m' S'.lk S'.nx w'):=by
 unfold acallf at h
 cases he:K.enter f with
 | false=>
   rw[he,cond_false]at h
   split at h
   ·rename_i v S1 hx
    cases h
    exact ⟨aext_le hx,fun m w args hR hf hG ha=>aext_ok hK hR hG hf he hx ha⟩
   ·cases h
 | true=>
   rw[he,cond_true]at h
   split at h
   ·cases h
   rename_i fn hfn
   split at h
   ·cases h
   rename_i c hc
   cases hb:Nat.ble (len as) fn.ntmps with
   | false=>rw[hb]at h;cases h
   | true=>
   rw[hb,cond_true]at h
   rw[Nat.ble_eq,len_eq]at hb
   have core:∀ (o:Out) env S1 v,ih c fn.ntmps (ienv as 0 enew) S=.ok o env S1→(o=.norm∨o=.ret)→ares P K env S1 fn.results.toList=some v→S.nx≤S1.nx∧∀ m w args,R S.lk m w→Fre m S.nx S1.nx→Gl K m→cvs m as=some args→Calls P f args.toArray w (Got K m S w S1 v):=by
    intro o env S1 v hi ho hv
    obtain ⟨hle,hs⟩:=hS _ _ _ _ _ _ _ hi
    refine ⟨hle,fun m w args hR hf hG ha=>?_⟩
    have hal:=cvs_length ha
    refine calls_of_wp ((fnc_eq P f).symm.trans hfn) hc ?_
    refine hs m _ w hR hf hG ?_ ?_ rfl _ ?_
    ·refine ienv_ok ha (fun j u hu=>?_) (fun t x hx=>by rw[eget_new]at hx;cases hx)
     have hj:j<args.length:=(List.getElem?_eq_some_iff.1 hu).1
     rw[Nat.zero_add,Array.getElem?_append_left (by simpa using hj)]
     simpa using hu
    ·simp;omega
    ·intro m' a' w' hst hE hn hd
     obtain ⟨u,h1,h2⟩:=ares_ok (fn:=fn) hst.rel hE hv
     rcases ho with rfl|rfl
     ·exact ⟨hd,u,h2,m',u,rfl,h1,hst⟩
     ·exact ⟨hd,u,h2,m',u,rfl,h1,hst⟩
   split at h
   ·cases h
   ·rename_i env S1 hi
    split at h
    ·rename_i v hv
     cases h
     obtain ⟨q1,q2⟩:=core _ _ _ _ hi (.inl rfl) hv
     exact ⟨q1,fun m w args h1 h2 h3 h4=>.inl ⟨hK.enter f he,q2 m w args h1 h2 h3 h4⟩⟩
    ·cases h
   ·rename_i env S1 hi
    split at h
    ·rename_i v hv
     cases h
     obtain ⟨q1,q2⟩:=core _ _ _ _ hi (.inr rfl) hv
     exact ⟨q1,fun m w args h1 h2 h3 h4=>.inl ⟨hK.enter f he,q2 m w args h1 h2 h3 h4⟩⟩
    ·cases h
   ·cases h
theorem aop0_ok (hK:KnownOk P K) {ih:Code→Nat→Env→St→Ex}(hS:Sound P K ih) {S S':St}{ρ:Rho}{o:Oper}{r:AV}(h:aop0 P K ih S ρ o.op=.ok r S') :
 S.nx≤S'.nx∧∀ m a w,R S.lk m w→Fre m S.nx S'.nx→Gl K m→RhoOk m ρ a.eval→∀ (next:Act→World→Prop) (Q:Exit→Act→World→Prop),
  (∀ m' v w',Step K.g m S.lk S.nx w m' S'.lk S'.nx w'→cvo m' r=some v→next (a.put o.dst v) w')→o.wp P a w next Q:=by
 unfold aop0 at h
 split at h
 ·rename_i v S1 hq
  cases h
  refine ⟨aquiet_le hq,fun m a w hR hf hG hρ next Q hn=>?_⟩
  obtain ⟨m',w',nx,u,h1,h2,h3,h4⟩:=aquiet_ok (P:=P) hR hf hρ hq
  unfold Oper.wp
  rw[h1]
  rcases h2 with rfl|⟨rfl,rfl⟩
  ·exact hn m' u w' h4 h3
  ·exact hn m' undef w' h4 h3
 ·split at h
  ·rename_i f as hc
   obtain ⟨hle,hs⟩:=acallf_ok hK hS h
   refine ⟨hle,fun m a w hR hf hG hρ next Q hn=>?_⟩
   obtain ⟨args,ha,hrun⟩:=acallee_ok (P:=P) hρ hc
   unfold Oper.wp
   rw[hrun]
   rcases hs m w args hR hf hG ha with ⟨he,hcalls⟩|⟨m',w',v,h1,h2,h3⟩
   ·rw[he]
    refine Calls.mono hcalls ?_
    rintro e w' ⟨m',v,rfl,h1,h2⟩
    exact hn m' v w' h2 h1
   ·rw[h1]
    exact hn m' v w' h3 h2
  ·cases h
theorem clo_ok {S S':St}{x:Option AV}{g:Cl}{r:AV}(h:clo S x g=.ok r S'):(x=some r∧S'=S)∨(x=none∧g=.ok r S'):=by
 cases x with
 | none=>exact .inr ⟨rfl,h⟩
 | some v=>
   have h:Cl.ok v S=.ok r S':=h
   cases h;exact .inl ⟨rfl,rfl⟩
theorem aop0_pure {ih:Code→Nat→Env→St→Ex}{S:St}{ρ:Rho}{o:Op}{r:AV}(h:apure P ρ o=some r):aop0 P K ih S ρ o=.ok r S:=by
 simp only[aop0,aquiet,h]
theorem aop_aop0 {ih:Code→Nat→Env→St→Ex}{S S':St}{ρ:Rho}{o:Op}{r:AV}(h:aop P K ih S ρ o=.ok r S'):aop0 P K ih S ρ o=.ok r S':=by
 have pu:∀ {x:Option AV}{p:Op},(∀ r,x=some r→apure P ρ p=some r)→clo S x (.bad [])=.ok r S'→aop0 P K ih S ρ p=.ok r S':=by
  intro x p hp h
  rcases clo_ok h with ⟨h1,rfl⟩|⟨_,h1⟩
  ·exact aop0_pure (hp _ h1)
  ·cases h1
 cases o with
 | move x=>exact pu (fun r h=>h) h
 | assign x=>exact pu (fun r h=>h) h
 | pick c a b=>exact pu (fun r h=>qpick_ok h) h
 | nilCheck x=>exact pu (fun r h=>qnil_ok h) h
 | binOp op t x y u=>exact pu (fun r h=>qbin_ok h) h
 | fieldAddr s x f=>exact pu (fun r h=>qfda_ok h) h
 | indexAddr t x i=>exact pu (fun r h=>qixa_ok h) h
 | index t x i=>exact pu (fun r h=>qidx_ok h) h
 | load t x=>
   rcases clo_ok h with ⟨h1,rfl⟩|⟨_,h1⟩
   ·have:=qload_ok h1
    have h0:apure P ρ (.load t x)=none:=rfl
    simp only[aop0,aquiet,h0,this]
   ·cases h1
 | convert s d x=>
   rcases clo_ok h with ⟨h1,rfl⟩|⟨_,h1⟩
   ·exact aop0_pure (qconv_ok h1)
   ·exact h1
 | store t x v=>
   have h:cls (qsto P K.g S ρ t x v)=.ok r S':=h
   cases hq:qsto P K.g S ρ t x v with
   | none=>rw[hq]at h;cases h
   | some S1=>
     rw[hq]at h
     have h:Cl.ok (.tp []) S1=.ok r S':=h
     cases h
     obtain ⟨h1,h2⟩:=qsto_ok hq
     have e1:apure P ρ (.store t x v)=none:=rfl
     have e2:ard P S.lk ρ (.store t x v)=none:=rfl
     have e3:aalloc P ρ (.store t x v)=none:=rfl
     have e4:Nat.ble S.nx S'.nx=true:=by rw[h2,Nat.ble_eq];exact Nat.le_refl _
     simp only[aop0,aquiet,e1,e2,e3,h1,e4,cond_true]
 | extract x i=>exact pu (fun r h=>qext_ok h) h
 | field t x f=>exact pu (fun r h=>qfld_ok h) h
 | slice t x a b c=>
   rcases clo_ok h with ⟨h1,rfl⟩|⟨_,h1⟩
   ·exact aop0_pure (qsli_ok h1)
   ·exact h1
 | call c=>
   obtain ⟨ce,args,tys⟩:=c
   cases ce with
   | value x=>cases h
   | invoke x s=>cases h
   | builtin b=>
     have h:clo S (qbul P ρ b args tys) (aop0 P K ih S ρ (.call ⟨.builtin b,args,tys⟩))=.ok r S':=h
     rcases clo_ok h with ⟨h1,rfl⟩|⟨_,h1⟩
     ·exact aop0_pure (qbul_ok h1)
     ·exact h1
 | _=>first|exact h|cases h
theorem aop_ok (hK:KnownOk P K) {ih:Code→Nat→Env→St→Ex}(hS:Sound P K ih) {S S':St}{ρ:Rho}{o:Oper}{r:AV}(h:aop P K ih S ρ o.op=.ok r S') :
 S.nx≤S'.nx∧∀ m a w,R S.lk m w→Fre m S.nx S'.nx→Gl K m→RhoOk m ρ a.eval→∀ (next:Act→World→Prop) (Q:Exit→Act→World→Prop),
  (∀ m' v w',Step K.g m S.lk S.nx w m' S'.lk S'.nx w'→cvo m' r=some v→next (a.put o.dst v) w')→o.wp P a w next Q:=aop0_ok hK hS (aop_aop0 h)
theorem awant_iff {all:List Oper}{env:Env}{o:Oper}{b:Bool}(h:awant all env o=some b):(o.guard=none∧b=true)∨∃ j w,o.guard=some (j,w)∧awant1 all env j w=some b:=by
 unfold awant at h
 cases hg:o.guard with
 | none=>rw[hg]at h;exact .inl ⟨rfl,(Option.some.inj h).symm⟩
 | some g=>rw[hg]at h;exact .inr ⟨g.1,g.2,rfl,h⟩
theorem awant_ok {m:Map}{ops:Array Oper}{env:Env}{tmps:Array Value}(hE:EnvOk m env tmps) {o:Oper}{b:Bool}(h:awant ops.toList env o=some b):Region.wanted o (yielded ops tmps)=b:=by
 unfold Region.wanted
 rcases awant_iff h with ⟨hg,rfl⟩|⟨j,wnt,hg,h⟩
 ·rw[hg]
 ·rw[hg]
  unfold awant1 at h
  split at h
  ·rename_i oj hj
   rw[nth_eq,Array.getElem?_toList]at hj
   split at h
   ·rename_i t ht
    split at h
    ·rename_i x hx
     obtain rfl:=Option.some.inj h
     obtain ⟨v,h1,h2⟩:=hE _ _ hx
     simp only[cvo,Option.some.injEq]at h2;subst h2
     simp only[yielded,hj,Option.bind_some,ht,h1]
     cases x<;>cases wnt<;>rfl
    ·rename_i l hx
     obtain rfl:=Option.some.inj h
     obtain ⟨v,h1,h2⟩:=hE _ _ hx
     simp only[cvo,Option.map_eq_some_iff]at h2
     obtain ⟨vs,_,rfl⟩:=h2
     simp[yielded,hj,ht,h1]
    ·cases h
   ·cases h
  ·cases h
theorem Steps.tail {m m1 t:Machine}(h:Steps P m t) (h1:step P m=.next m1) (hne:m≠t):Steps P m1 t:=by
 obtain ⟨n,hn⟩:=h
 cases n with
 | zero=>simp only[runN,Stepped.next.injEq]at hn;exact absurd hn hne
 | succ n=>simp only[runN,h1]at hn;exact ⟨n,hn⟩
theorem exitTo_len:∀ {k k':List Item}{id:Nat},exitTo id k=some k'→k'.length<k.length
 | [],k',id,h=>by simp[exitTo]at h
 | x :: k,k',id,h=>by
   cases x<;>simp only[exitTo]at h<;>try (have:=exitTo_len h;simp only[List.length_cons];omega)
   split at h
   ·obtain rfl:=Option.some.inj h;simp
   ·have:=exitTo_len h;simp only[List.length_cons];omega
def Plain (Q:Exit→Act→World→Prop):Prop:=∀ e a w,Q e a w→e=.normal∨(∃ id,e=.exit id)∨e=.ret
theorem wp_unroll {b:Code}{Q:Exit→Act→World→Prop}(hQ:Plain Q) {a:Act}{w:World}(h:b.wp P (Exit.then ((Code.loop b).wp P Q) Q) a w):(Code.loop b).wp P Q a w:=by
 intro fr k cs
 obtain ⟨e,a1,w1,hq,harr⟩:=h fr (.inLoop b :: k) cs
 cases e with
 | normal=>
   obtain ⟨e2,a2,w2,hq2,harr2⟩:=hq fr k cs
   refine ⟨e2,a2,w2,hq2,?_⟩
   have s1:step P (lone (fr.at a1 (.code (.loop b) :: k)) cs w1)=.next (lone (fr.at a1 (.code b :: .inLoop b :: k)) cs w1):=step_loop
   have s2:step P (lone (fr.at a1 (.inLoop b :: k)) cs w1)=.next (lone (fr.at a1 (.code b :: .inLoop b :: k)) cs w1):=step_inLoop
   have base:Steps P (lone (fr.at a (.code (.loop b) :: k)) cs w) (lone (fr.at a1 (.code b :: .inLoop b :: k)) cs w1):=Steps.head step_loop (Steps.trans harr (.one s2))
   have todoOf:∀ {f1 f2:Frame}{c1 c2:List Frame}{w1 w2:World},lone f1 c1 w1=lone f2 c2 w2→f1=f2:=by
    intro f1 f2 c1 c2 w1 w2 he
    have:=congrArg (fun m:Machine=>(m.gs[0]?).map (·.frame)) he
    simpa [lone]using this
   rcases hQ _ _ _ hq2 with rfl|⟨id,rfl⟩|rfl
   ·refine base.trans (Steps.tail harr2 s1 fun he=>?_)
    have:=congrArg (fun f:Frame=>f.todo.length) (todoOf he)
    simp[Frame.at]at this
   ·intro k' hk'
    refine base.trans (Steps.tail (harr2 k' hk') s1 fun he=>?_)
    have h1:=congrArg (fun f:Frame=>f.todo.length) (todoOf he)
    have h2:=exitTo_len hk'
    simp[Frame.at]at h1
    omega
   ·obtain ⟨todo,hs⟩:=harr2
    refine ⟨todo,base.trans (Steps.tail hs s1 fun he=>?_)⟩
    have:=congrArg (fun f:Frame=>f.mode) (todoOf he)
    simp[Frame.at]at this
 | exit id=>exact ⟨_,a1,w1,hq,.of_steps (.one step_loop) (.pass (x:=.inLoop b) rfl (fun _ _=>.inl (by simp)) harr)⟩
 | goto l=>exact ⟨_,a1,w1,hq,.of_steps (.one step_loop) (.pass (x:=.inLoop b) rfl (fun _ _=>.inl (by simp)) harr)⟩
 | ret=>exact ⟨_,a1,w1,hq,.of_steps (.one step_loop) (.pass (x:=.inLoop b) rfl (fun _ _=>.inl (by simp)) harr)⟩
 | panic ch=>exact ⟨_,a1,w1,hq,.of_steps (.one step_loop) (.pass (x:=.inLoop b) rfl (fun _ _=>.inl (by simp)) harr)⟩
 | outgrown=>exact ⟨_,a1,w1,hq,.of_steps (.one step_loop) (.pass (x:=.inLoop b) rfl (fun _ _=>.inl (by simp)) harr)⟩
def DrawOk (P:Program) (K:Known) (draw:Draw):Prop:=∀ ih,Sound P K ih→∀ ops n id env S env' S',draw ih ops n id env S=.ok env' S'→S.nx≤S'.nx ∧
    ∀ m a w,R S.lk m w→Fre m S.nx S'.nx→Gl K m→EnvOk m env a.tmps→a.tmps.size=n→a.defers = []→∀ Q:Exit→Act→World→Prop,
      (∀ m' a' w',Step K.g m S.lk S.nx w m' S'.lk S'.nx w'→EnvOk m' env' a'.tmps→a'.tmps.size=n→a'.defers = []→Q .normal a' w')→(Code.region id ops true).wp P Q a w
end
end Am
end
section
namespace Am
open Go
noncomputable section
def tb (m i:Nat):Bool:=Nat.beq (Nat.mod (Nat.shiftRight m i) 2) 1
theorem tb_eq (m i:Nat):tb m i=m.testBit i:=by
 rw[Bool.eq_iff_iff,tb,Nat.beq_eq,Nat.testBit_eq_decide_div_mod_eq,decide_eq_true_iff]
 show (m >>> i) % 2=1↔_
 rw[Nat.shiftRight_eq_div_pow]
def mk1 (acc:List Nat) (o:Oper):Nat:=
 o.after.toList.foldl (fun s e=>bif Region.binds .any e then Nat.lor s (Nat.lor (Nat.shiftLeft 1 e.on) ((nth acc e.on).getD 0))else s) 0
def mks:List Oper→List Nat→List Nat
 | [],acc=>acc
 | o :: l,acc=>mks l (acc ++ [mk1 acc o])
def stW:Op→Bool
 | .store ..=>true
 | .mapUpdate ..=>true
 | .insert ..=>true
 | .mapEntry ..=>true
 | .entryStore ..=>true
 | .range ..=>true
 | .next ..=>true
 | .call c=>match c.callee with
   | .builtin b=>match b with
     | .len=>false
     | .cap=>false
     | .max=>false
     | .min=>false
     | .unsafeSliceData=>false
     | _=>true
   | _=>true
 | _=>false
def memb (x:Nat) (l:List Nat):Bool:=List.rec false (fun a _ ih=>Nat.beq x a || ih) l
def mOf (M:List Nat) (i:Nat):Nat:=(nth M i).getD 0
def optT (d:Option Tmp):List Tmp:=match d with
 | some t=>[t]
 | none=>[]
def tsOf (ops:Array Oper) (o:Oper):List Tmp:=o.looksAt ops ++ optT o.dst
def dstIs (all:List Oper) (y t:Nat):Bool:=match nth all y with
 | some o=>match o.dst with
   | some d=>Nat.beq d t
   | none=>false
 | none=>false
def posOk (ops:Array Oper) (M:List Nat) (pre:List Nat) (x:Nat) (post:List Nat):Bool:=
 match nth ops.toList x with
 | none=>false
 | some o=>((bif stW o.op then pre.all (fun y=>tb (mOf M x) y)else true) &&
  (o.after.toList.all (fun e=>bif Region.binds .any e then memb e.on pre else true) && !(memb x pre))) &&
  (tsOf ops o).all (fun t=>pre.all (fun y=>bif dstIs ops.toList y t then tb (mOf M x) y else true) && post.all (fun y=>bif dstIs ops.toList y t then tb (mOf M y) x else true))
def chkPos (ops:Array Oper) (M:List Nat):List Nat→List Nat→Bool
 | _,[]=>true
 | pre,x :: post=>posOk ops M pre x post && chkPos ops M (x :: pre) post
def ordW (M:List Nat) (n:Nat) (acc:List Nat) (w:Nat):List Nat:=
 acc ++ ((List.range n).filter (fun i=>tb (mOf M w) i && !(memb i acc)) ++ [w])
def ordOf (ops:List Oper) (M:List Nat):List Nat:=
 let n:=len ops
 let ws:=(List.range n).filter (fun i=>match nth ops i with
  | some o=>stW o.op
  | none=>false)
 let acc:=ws.foldl (ordW M n) []
 acc ++ (List.range n).filter (fun i=>!(memb i acc))
def stat2 (ops:Array Oper) (M ord:List Nat):Option (List Nat × List Nat):=
 bif (Nat.beq (len ord) (len ops.toList) && (List.range (len ops.toList)).all (fun j=>memb j ord)) && chkPos ops M [] ord then some (ord,M)else none
def stat (ops:Array Oper):Option (List Nat × List Nat):=
 stat2 ops (mks ops.toList []) (ordOf ops.toList (mks ops.toList []))
structure Rec where
 i:Nat
 o:Oper
 env:Env
 S:St
 v:AV
 k:Nat
 S':St
 blk:Blk
inductive Kl where
 | ok (k:Nat) (v:AV) (S:St) (b:Blk)
 | bad (l:List Nat)
def aopk (P:Program) (K:Known) (ih:Code→Nat→Env→St→Ex) (S:St) (ρ:Rho) (o:Op):Kl:=
 match apure P ρ o with
 | some v=>.ok 0 v S (.it 0 0 0)
 | none=>match ard P S.lk ρ o with
   | some v=>.ok 1 v S (.it 0 0 0)
   | none=>match aalloc P ρ o with
     | some (blk,f)=>bif Nat.ble K.g S.nx then .ok 2 (f S.nx) ⟨S.h.put (some blk) S.nx,Nat.succ S.nx⟩ blk else .bad [701]
     | none=>match awr P K.g S ρ o with
       | some (v,S')=>bif Nat.ble S.nx S'.nx then .ok 3 v S' (.it 0 0 0)else .bad [702]
       | none=>match acallee ρ o with
         | some (f,as)=>match acallf P K ih S f as with
           | .ok v S'=>.ok 3 v S' (.it 0 0 0)
           | .bad l=>.bad l
         | none=>.bad [703]
def rstR (ts:List Tmp) (ρ:Rho):Rho
 | .tmp t=>bif memb t ts then ρ (.tmp t)else none
 | x=>ρ x
inductive Rn where
 | ok (l:List Rec) (e:Env) (S:St)
 | bad (l:List Nat)
def arun (P:Program) (K:Known) (ih:Code→Nat→Env→St→Ex) (ops:Array Oper) (n id:Nat):List Nat→Env→St→Rn
 | [],env,S=>.ok [] env S
 | i :: ord,env,S=>match nth ops.toList i with
   | none=>.bad [id,i,711]
   | some o=>match awant ops.toList env o with
     | some true=>match aopk P K ih S (rstR (o.looksAt ops) (evo K env)) o.op with
       | .ok k v S' b=>bif (bif Nat.beq k 3 then stW o.op else true)then
        (match aput n env o.dst v with
        | some env'=>match arun P K ih ops n id ord env' S' with
          | .ok l e s=>.ok (⟨i,o,env,S,v,k,S',b⟩ :: l) e s
          | .bad l=>.bad l
        | none=>.bad [id,i,712])else .bad [id,i,713]
       | .bad l=>.bad (id :: i :: l)
     | some false=>match aput n env o.dst (.tp [])with
       | some env'=>match arun P K ih ops n id ord env' S with
         | .ok l e s=>.ok (⟨i,o,env,S,.tp [],0,S,.it 0 0 0⟩ :: l) e s
         | .bad l=>.bad l
       | none=>.bad [id,i,714]
     | none=>.bad [id,i,715]
mutual
def eqb:AV→AV→Bool
 | .b x,c=>match c with
   | .b y=>x == y
   | _=>false
 | .i k n,c=>match c with
   | .i k' n'=>keq k k' && ieq n n'
   | _=>false
 | .s n x,c=>match c with
   | .s m y=>Nat.beq n m && Nat.beq x y
   | _=>false
 | .p i o,c=>match c with
   | .p j q=>Nat.beq i j && Nat.beq o q
   | _=>false
 | .np,c=>match c with
   | .np=>true
   | _=>false
 | .sl i o n c e p,d=>match d with
   | .sl i' o' n' c' e' p'=>((Nat.beq i i' && Nat.beq o o') && (Nat.beq n n' && Nat.beq e e')) && (Nat.beq p p' && (match c,c' with
     | none,none=>true
     | some a,some b=>Nat.beq a b
     | _,_=>false))
   | _=>false
 | .nsl,c=>match c with
   | .nsl=>true
   | _=>false
 | .mp i,c=>match c with
   | .mp j=>Nat.beq i j
   | _=>false
 | .nmp,c=>match c with
   | .nmp=>true
   | _=>false
 | .fn _ _ _,_=>false
 | .nfn,c=>match c with
   | .nfn=>true
   | _=>false
 | .nifc,c=>match c with
   | .nifc=>true
   | _=>false
 | .ifc t v,c=>match c with
   | .ifc u w=>Nat.beq t u && eqb v w
   | _=>false
 | .ag l,c=>match c with
   | .ag k=>eqbs l k
   | _=>false
 | .tp l,c=>match c with
   | .tp k=>eqbs l k
   | _=>false
 | .v _,_=>false
def eqbs:List AV→List AV→Bool
 | [],c=>match c with
   | []=>true
   | _=>false
 | a :: l,c=>match c with
   | b :: k=>eqb a b && eqbs l k
   | _=>false
end
mutual
theorem eqb_ok:∀ (a:AV) {b:AV},eqb a b=true→a=b
 | .b x,b,h=>by cases b<;>simp only[eqb,beq_iff_eq,Bool.false_eq_true]at h;rw[h]
 | .i k n,b,h=>by
   cases b<;>simp only[eqb,Bool.and_eq_true,ieq_eq,beq_iff_eq,Bool.false_eq_true]at h
   rw[keq_eq h.1,h.2]
 | .s n x,b,h=>by cases b<;>simp only[eqb,Bool.and_eq_true,Nat.beq_eq,Bool.false_eq_true]at h;rw[h.1,h.2]
 | .p i o,b,h=>by cases b<;>simp only[eqb,Bool.and_eq_true,Nat.beq_eq,Bool.false_eq_true]at h;rw[h.1,h.2]
 | .np,b,h=>by cases b<;>simp only[eqb,Bool.false_eq_true]at h;rfl
 | .sl i o n c e p,b,h=>by
   cases b<;>simp only[eqb,Bool.and_eq_true,Nat.beq_eq,Bool.false_eq_true]at h
   rename_i i' o' n' c' e' p'
   obtain ⟨⟨⟨h1,h2⟩,h3,h4⟩,h5,h6⟩:=h
   subst h1 h2 h3 h4 h5
   cases c<;>cases c'<;>simp only[Nat.beq_eq,Bool.false_eq_true]at h6
   ·rfl
   ·rw[h6]
 | .nsl,b,h=>by cases b<;>simp only[eqb,Bool.false_eq_true]at h;rfl
 | .mp i,b,h=>by cases b<;>simp only[eqb,Nat.beq_eq,Bool.false_eq_true]at h;rw[h]
 | .nmp,b,h=>by cases b<;>simp only[eqb,Bool.false_eq_true]at h;rfl
 | .fn _ _ _,b,h=>by simp only[eqb,Bool.false_eq_true]at h
 | .nfn,b,h=>by cases b<;>simp only[eqb,Bool.false_eq_true]at h;rfl
 | .nifc,b,h=>by cases b<;>simp only[eqb,Bool.false_eq_true]at h;rfl
 | .ifc t v,b,h=>by
   cases b<;>simp only[eqb,Bool.and_eq_true,Nat.beq_eq,Bool.false_eq_true]at h
   rw[h.1,eqb_ok v h.2]
 | .ag l,b,h=>by cases b<;>simp only[eqb,Bool.false_eq_true]at h;rw[eqbs_ok l h]
 | .tp l,b,h=>by cases b<;>simp only[eqb,Bool.false_eq_true]at h;rw[eqbs_ok l h]
 | .v _,b,h=>by simp only[eqb,Bool.false_eq_true]at h
theorem eqbs_ok:∀ (a:List AV) {b:List AV},eqbs a b=true→a=b
 | [],b,h=>by cases b<;>simp only[eqbs,Bool.false_eq_true]at h;rfl
 | a :: l,b,h=>by
   cases b<;>simp only[eqbs,Bool.and_eq_true,Bool.false_eq_true]at h
   rw[eqb_ok a h.1,eqbs_ok l h.2]
end
def findB (mj:Nat) (id:Nat):List Rec→Option Blk
 | []=>none
 | r :: B=>bif (Nat.beq r.k 2 && tb mj r.i) && Nat.beq r.S.nx id then some r.blk else findB mj id B
def lookB (S:St) (B:List Rec) (mj:Nat):Lk:=fun id=>match S.h.get id with
 | some b=>some b
 | none=>findB mj id B
def rd1 (P:Program) (K:Known) (ops:Array Oper) (M:List Nat) (r:Rec) (B:List Rec) (S:St):Bool:=
 bif B.all (fun q=>bif Nat.beq q.k 3 then !(tb (mOf M r.i) q.i)else true)then
  (match ard P (lookB S B (mOf M r.i)) (rstR (r.o.looksAt ops) (evo K r.env)) r.o.op with
  | some v=>eqb v r.v
  | none=>false)else true
def rdGo (P:Program) (K:Known) (ops:Array Oper) (M:List Nat) (r:Rec):List Rec→Bool
 | []=>true
 | q :: B=>bif Nat.beq q.k 3 then (bif tb (mOf M q.i) r.i then true else rd1 P K ops M r B q.S' && rdGo P K ops M r B)else rdGo P K ops M r B
def rdOk (P:Program) (K:Known) (ops:Array Oper) (M:List Nat) (L:List Rec) (S:St):Bool:=
 L.all (fun r=>bif Nat.beq r.k 1 then rd1 P K ops M r L S && rdGo P K ops M r L else true)
def adraw (P:Program) (K:Known):Draw:=fun ih ops n id env S=>
 match stat ops with
 | none=>.bad [id,721]
 | some (ord,M)=>match arun P K ih ops n id ord env S with
   | .bad l=>.bad l
   | .ok L e S'=>bif rdOk P K ops M L S then .ok e S' else .bad [id,722]
end
end Am
end
section
namespace Am
open Go
noncomputable section
variable {P:Program}{K:Known}
theorem mk1_bit {acc:List Nat}{o:Oper}{i:Nat}(h:(mk1 acc o).testBit i=true):∃ e∈o.after.toList,Region.binds .any e=true∧(e.on=i∨∃ x,acc[e.on]?=some x∧x.testBit i=true):=by
 have key:∀ (l:List Edge) (s:Nat),(l.foldl (fun s e=>bif Region.binds .any e then Nat.lor s (Nat.lor (Nat.shiftLeft 1 e.on) ((nth acc e.on).getD 0))else s) s).testBit i=true →
  s.testBit i=true∨∃ e∈l,Region.binds .any e=true∧(e.on=i∨∃ x,acc[e.on]?=some x∧x.testBit i=true):=by
  intro l
  induction l with
  | nil=>intro s hs;exact .inl hs
  | cons e l ih=>
    intro s hs
    rw[List.foldl_cons]at hs
    rcases ih _ hs with h1|⟨e',h1,h2⟩
    ·cases hb:Region.binds .any e with
     | false=>rw[hb,cond_false]at h1;exact .inl h1
     | true=>
       rw[hb,cond_true]at h1
       have h1':(s ||| ((1 <<< e.on) ||| ((nth acc e.on).getD 0))).testBit i=true:=h1
       rw[Nat.testBit_or,Nat.testBit_or,Nat.one_shiftLeft,Nat.testBit_two_pow]at h1'
       rcases Bool.or_eq_true _ _▸h1' with h2|h2
       ·exact .inl h2
       ·right
        refine ⟨e,List.mem_cons_self,hb,?_⟩
        rcases Bool.or_eq_true _ _▸h2 with h3|h3
        ·exact .inl (of_decide_eq_true h3)
        ·right
         rw[nth_eq]at h3
         cases hx:acc[e.on]? with
         | none=>rw[hx]at h3;simp at h3
         | some x=>rw[hx]at h3;exact ⟨x,rfl,h3⟩
    ·exact .inr ⟨e',List.mem_cons_of_mem _ h1,h2⟩
 rcases key _ _ h with h1|h1
 ·simp at h1
 ·exact h1
theorem mks_spec:∀ (l:List Oper) (acc:List Nat),(∃ tail,mks l acc=acc ++ tail)∧(mks l acc).length=acc.length+l.length∧∀ j o,l[j]?=some o→(mks l acc)[acc.length+j]?=some (mk1 ((mks l acc).take (acc.length+j)) o)
 | [],acc=>⟨⟨[],by simp[mks]⟩,by simp[mks],fun j o h=>by simp at h⟩
 | o :: l,acc=>by
   obtain ⟨⟨tail,h1⟩,h2,h3⟩:=mks_spec l (acc ++ [mk1 acc o])
   have e:mks (o :: l) acc=mks l (acc ++ [mk1 acc o]):=rfl
   refine ⟨⟨mk1 acc o :: tail,by rw[e,h1];simp⟩,by rw[e,h2];simp;omega,fun j o' hj=>?_⟩
   rw[e]
   cases j with
   | zero=>
     obtain rfl:o=o':=by simpa using hj
     rw[h1,Nat.add_zero]
     rw[List.append_assoc,List.getElem?_append_right (Nat.le_refl _),Nat.sub_self,List.take_left']
     ·rfl
     ·rfl
   | succ j=>
     have:=h3 j o' (by simpa using hj)
     rw[List.length_append,List.length_singleton]at this
     rw[show acc.length+(j+1)=acc.length+1+j by omega]
     exact this
theorem mask_closed {ops:Array Oper}{ins:Nat→Prop}(hc:∀ j o,ops[j]?=some o→ins j→∀ e∈o.after.toList,Region.binds .any e=true→ins e.on) :
 ∀ (j:Nat) (o:Oper),ops[j]?=some o→(∀ e∈o.after.toList,Region.binds .any e=true→ins e.on)→∀ i,tb (mOf (mks ops.toList []) j) i=true→ins i:=by
 intro j
 induction j using Nat.strongRecOn with
 | _ j IH=>
   intro o ho hp i hi
   obtain ⟨_,h2,h3⟩:=mks_spec ops.toList []
   have hj:=h3 j o (by rw[Array.getElem?_toList];exact ho)
   simp only[List.length_nil,Nat.zero_add]at hj h2
   rw[tb_eq,mOf,nth_eq,hj,Option.getD_some]at hi
   obtain ⟨e,he,hb,h4⟩:=mk1_bit hi
   have hins:=hp e he hb
   rcases h4 with rfl|⟨x,h5,h6⟩
   ·exact hins
   ·rw[List.getElem?_take]at h5
    split at h5
    ·rename_i hlt
     have hjl:j<ops.size:=(Array.getElem?_eq_some_iff.1 ho).1
     have hel:e.on<ops.size:=by omega
     refine IH e.on hlt (ops[e.on]'hel) (by simp[hel]) (hc e.on _ (by simp[hel]) hins) i ?_
     rw[tb_eq,mOf,nth_eq,h5,Option.getD_some];exact h6
    ·cases h5
theorem memb_eq (x:Nat):∀ l:List Nat,memb x l=true↔x∈l
 | []=>by simp[memb]
 | a :: l=>by
   have e:memb x (a :: l)=(Nat.beq x a || memb x l):=rfl
   rw[e,Bool.or_eq_true,Nat.beq_eq,memb_eq x l,List.mem_cons]
theorem chkPos_at {ops:Array Oper}{M:List Nat}:∀ {A:List Nat}{pre:List Nat}{x:Nat}{B:List Nat},chkPos ops M pre (A ++ x :: B)=true→posOk ops M (A.reverse ++ pre) x B=true
 | [],pre,x,B,h=>by
   simp only[List.nil_append,chkPos,Bool.and_eq_true]at h
   simpa using h.1
 | a :: A,pre,x,B,h=>by
   simp only[List.cons_append,chkPos,Bool.and_eq_true]at h
   have:=chkPos_at h.2
   simpa using this
structure RecOk (P:Program) (K:Known) (ih:Code→Nat→Env→St→Ex) (ops:Array Oper) (n:Nat) (r:Rec) (e:Env):Prop where
 at_:ops[r.i]?=some r.o
 put:aput n r.env r.o.dst r.v=some e
 does:(awant ops.toList r.env r.o=some true∧aopk P K ih r.S (rstR (r.o.looksAt ops) (evo K r.env)) r.o.op=.ok r.k r.v r.S' r.blk∧(r.k=3→stW r.o.op=true)) ∨
  (awant ops.toList r.env r.o=some false∧r.v=.tp []∧r.k=0∧r.S'=r.S)
inductive Run (P:Program) (K:Known) (ih:Code→Nat→Env→St→Ex) (ops:Array Oper) (n:Nat):List Rec→Env→St→Env→St→Prop
 | nil {e S}:Run P K ih ops n [] e S e S
 | cons {r L e1 e2 S2}:RecOk P K ih ops n r e1→Run P K ih ops n L e1 r.S' e2 S2→Run P K ih ops n (r :: L) r.env r.S e2 S2
variable {ih:Code→Nat→Env→St→Ex}{ops:Array Oper}{n:Nat}
theorem arun_ok {id:Nat}:∀ {ord:List Nat}{env env':Env}{S S':St}{L:List Rec},arun P K ih ops n id ord env S=.ok L env' S'→Run P K ih ops n L env S env' S'∧L.map (·.i)=ord
 | [],env,env',S,S',L,h=>by simp only[arun,Rn.ok.injEq]at h;obtain ⟨rfl,rfl,rfl⟩:=h;exact ⟨.nil,rfl⟩
 | i :: ord,env,env',S,S',L,h=>by
   simp only[arun]at h
   split at h
   ·cases h
   rename_i o ho
   rw[nth_eq,Array.getElem?_toList]at ho
   split at h
   ·rename_i hw
    split at h
    ·rename_i k v S1 b hop
     cases hst:(bif Nat.beq k 3 then stW o.op else true)with
     | false=>rw[hst]at h;cases h
     | true=>
     rw[hst,cond_true]at h
     split at h
     ·rename_i env1 hp
      split at h
      ·rename_i l e s hl
       simp only[Rn.ok.injEq]at h
       obtain ⟨rfl,rfl,rfl⟩:=h
       obtain ⟨h1,h2⟩:=arun_ok hl
       refine ⟨.cons (r:=⟨i,o,env,S,v,k,S1,b⟩) ⟨ho,hp,.inl ⟨hw,hop,fun hk=>?_⟩⟩ h1,by simp[h2]⟩
       simp only at hk
       subst hk
       exact hst
      ·cases h
     ·cases h
    ·cases h
   ·rename_i hw
    split at h
    ·rename_i env1 hp
     split at h
     ·rename_i l e s hl
      simp only[Rn.ok.injEq]at h
      obtain ⟨rfl,rfl,rfl⟩:=h
      obtain ⟨h1,h2⟩:=arun_ok hl
      exact ⟨.cons (r:=⟨i,o,env,S,.tp [],0,S,.it 0 0 0⟩) ⟨ho,hp,.inr ⟨hw,rfl,rfl,rfl⟩⟩ h1,by simp[h2]⟩
     ·cases h
    ·cases h
   ·cases h
theorem Run.split:∀ {A B:List Rec}{e e2:Env}{S S2:St},Run P K ih ops n (A ++ B) e S e2 S2→∃ e1 S1,Run P K ih ops n A e S e1 S1∧Run P K ih ops n B e1 S1 e2 S2
 | [],B,e,e2,S,S2,h=>⟨e,S,.nil,h⟩
 | r :: A,B,e,e2,S,S2,h=>by
   cases h with
   | cons h1 h2=>
     obtain ⟨e1,S1,h3,h4⟩:=Run.split h2
     exact ⟨e1,S1,.cons h1 h3,h4⟩
theorem Run.join:∀ {A B:List Rec}{e e1 e2:Env}{S S1 S2:St},Run P K ih ops n A e S e1 S1→Run P K ih ops n B e1 S1 e2 S2→Run P K ih ops n (A ++ B) e S e2 S2
 | [],B,e,e1,e2,S,S1,S2,h,k=>by cases h;exact k
 | r :: A,B,e,e1,e2,S,S1,S2,h,k=>by
   cases h with
   | cons h1 h2=>exact .cons h1 (h2.join k)
theorem aopk_cases {S S':St}{ρ:Rho}{o:Op}{k:Nat}{v:AV}{blk:Blk}(hS:Sound P K ih) (h:aopk P K ih S ρ o=.ok k v S' blk) :
 (k=0∧apure P ρ o=some v∧S'=S)∨(k=1∧ard P S.lk ρ o=some v∧S'=S) ∨
 (k=2∧(∃ f,aalloc P ρ o=some (blk,f)∧v=f S.nx)∧K.g≤S.nx∧S'=⟨S.h.put (some blk) S.nx,S.nx+1⟩) ∨
 (k=3∧S.nx≤S'.nx∧(awr P K.g S ρ o=some (v,S')∨∃ f as,acallee ρ o=some (f,as)∧acallf P K ih S f as=.ok v S')):=by
 unfold aopk at h
 split at h
 ·rename_i hv
  simp only[Kl.ok.injEq]at h
  obtain ⟨rfl,rfl,rfl,_⟩:=h
  exact .inl ⟨rfl,hv,rfl⟩
 split at h
 ·rename_i hv
  simp only[Kl.ok.injEq]at h
  obtain ⟨rfl,rfl,rfl,_⟩:=h
  exact .inr (.inl ⟨rfl,hv,rfl⟩)
 split at h
 ·rename_i b f hv
  cases hb:Nat.ble K.g S.nx with
  | false=>rw[hb]at h;cases h
  | true=>
  rw[hb,cond_true]at h
  rw[Nat.ble_eq]at hb
  simp only[Kl.ok.injEq]at h
  obtain ⟨rfl,rfl,rfl,rfl⟩:=h
  exact .inr (.inr (.inl ⟨rfl,⟨f,hv,rfl⟩,hb,rfl⟩))
 split at h
 ·rename_i v1 S1 hv
  cases hb:Nat.ble S.nx S1.nx with
  | false=>rw[hb]at h;cases h
  | true=>
  rw[hb,cond_true]at h
  rw[Nat.ble_eq]at hb
  simp only[Kl.ok.injEq]at h
  obtain ⟨rfl,rfl,rfl,_⟩:=h
  exact .inr (.inr (.inr ⟨rfl,hb,.inl hv⟩))
 split at h
 ·rename_i f as hc
  split at h
  ·rename_i v1 S1 hv
   simp only[Kl.ok.injEq]at h
   obtain ⟨rfl,rfl,rfl,_⟩:=h
   have hcl:S.nx≤S1.nx:=by
    unfold acallf at hv
    cases he:K.enter f with
    | false=>
      rw[he,cond_false]at hv
      split at hv
      ·rename_i hx;cases hv;exact aext_le hx
      ·cases hv
    | true=>
      rw[he,cond_true]at hv
      split at hv
      ·cases hv
      rename_i fn hfn
      split at hv
      ·cases hv
      rename_i c hc
      cases hb:Nat.ble (len as) fn.ntmps with
      | false=>rw[hb]at hv;cases hv
      | true=>
      rw[hb,cond_true]at hv
      split at hv
      ·cases hv
      ·rename_i hi
       split at hv
       ·cases hv;exact (hS _ _ _ _ _ _ _ hi).1
       ·cases hv
      ·rename_i hi
       split at hv
       ·cases hv;exact (hS _ _ _ _ _ _ _ hi).1
       ·cases hv
      ·cases hv
   exact .inr (.inr (.inr ⟨rfl,hcl,.inr ⟨f,as,hc,hv⟩⟩))
  ·cases h
 ·cases h
theorem RecOk.le (hS:Sound P K ih) {r:Rec}{e:Env}(h:RecOk P K ih ops n r e):r.S.nx≤r.S'.nx∧(r.k=2→r.S'.nx=r.S.nx+1)∧(r.k=0∨r.k=1→r.S'=r.S)∧(r.k=2→r.S'=⟨r.S.h.put (some r.blk) r.S.nx,r.S.nx+1⟩)∧(r.k=0∨r.k=1∨r.k=2∨r.k=3):=by
 rcases h.does with ⟨_,h1,_⟩|⟨_,_,h1,h2⟩
 ·rcases aopk_cases hS h1 with ⟨h2,_,h3⟩|⟨h2,_,h3⟩|⟨h2,_,_,h3⟩|⟨h2,h3,_⟩
  ·exact ⟨by rw[h3];exact Nat.le_refl _,fun h=>by omega,fun _=>h3,fun h=>by omega,by omega⟩
  ·exact ⟨by rw[h3];exact Nat.le_refl _,fun h=>by omega,fun _=>h3,fun h=>by omega,by omega⟩
  ·exact ⟨by rw[h3];exact Nat.le_succ _,fun _=>by rw[h3],fun h=>by omega,fun _=>h3,by omega⟩
  ·exact ⟨h3,fun h=>by omega,fun h=>by omega,fun h=>by omega,by omega⟩
 ·exact ⟨by rw[h2];exact Nat.le_refl _,fun h=>by omega,fun _=>h2,fun h=>by omega,by omega⟩
theorem Run.le (hS:Sound P K ih):∀ {L:List Rec}{e e2:Env}{S S2:St},Run P K ih ops n L e S e2 S2→S.nx≤S2.nx
 | _,_,_,_,_,.nil=>Nat.le_refl _
 | _,_,_,_,_,.cons h1 h2=>Nat.le_trans (h1.le hS).1 (h2.le hS)
theorem Run.mem (hS:Sound P K ih):∀ {L:List Rec}{e e2:Env}{S S2:St},Run P K ih ops n L e S e2 S2→∀ r∈L,S.nx≤r.S.nx∧r.S'.nx≤S2.nx∧∃ e1,RecOk P K ih ops n r e1
 | _,_,_,_,_,.nil,r,h=>by cases h
 | _,_,_,_,_,.cons (r:=r0) h1 h2,r,h=>by
   rcases List.mem_cons.1 h with rfl|h
   ·exact ⟨Nat.le_refl _,h2.le hS,_,h1⟩
   ·obtain ⟨a,b,c⟩:=h2.mem hS r h
    exact ⟨Nat.le_trans (h1.le hS).1 a,b,c⟩
theorem Run.lks (hS:Sound P K ih):∀ {L:List Rec}{e e2:Env}{S S2:St},Run P K ih ops n L e S e2 S2→(∀ r∈L,r.k≠3)→∀ id b,S2.lk id=some b→S.lk id=some b∨∃ r∈L,r.k=2∧r.S.nx=id∧r.blk=b
 | _,_,_,_,_,.nil,_,id,b,h=>.inl h
 | _,_,_,_,_,.cons (r:=r) h1 h2,hk,id,b,h=>by
   obtain ⟨_,_,q3,q4,q5⟩:=h1.le hS
   rcases h2.lks hS (fun r' hr'=>hk r' (List.mem_cons_of_mem _ hr')) id b h with h3|⟨r',h3,h4⟩
   ·have:=hk r List.mem_cons_self
    rcases q5 with q|q|q|q
    ·rw[q3 (.inl q)]at h3;exact .inl h3
    ·rw[q3 (.inr q)]at h3;exact .inl h3
    ·rw[q4 q]at h3
     rcases T.get_put _ _ _ _ h3 with ⟨rfl,rfl⟩|⟨_,h5⟩
     ·exact .inr ⟨r,List.mem_cons_self,q,rfl,rfl⟩
     ·exact .inl h5
    ·exact absurd q this
   ·exact .inr ⟨r',List.mem_cons_of_mem _ h3,h4⟩
def updF (f:Nat→Option AV) (d:Option Tmp) (v:AV):Nat→Option AV:=fun t=>if d=some t then some v else f t
def foldE (p:Nat→Bool):List Rec→(Nat→Option AV)→(Nat→Option AV)
 | [],f=>f
 | r :: L,f=>foldE p L (if p r.i then updF f r.o.dst r.v else f)
theorem foldE_append (p:Nat→Bool):∀ (A B:List Rec) (f:Nat→Option AV),foldE p (A ++ B) f=foldE p B (foldE p A f)
 | [],B,f=>rfl
 | r :: A,B,f=>foldE_append p A B _
theorem foldE_same {p q:Nat→Bool}{t:Nat}:∀ {L:List Rec}{f g:Nat→Option AV},(∀ r∈L,r.o.dst=some t→p r.i=q r.i)→f t=g t→foldE p L f t=foldE q L g t
 | [],f,g,h,e=>e
 | r :: L,f,g,h,e=>by
   show foldE p L (if p r.i then updF f r.o.dst r.v else f) t=foldE q L (if q r.i then updF g r.o.dst r.v else g) t
   refine foldE_same (fun r' hr'=>h r' (List.mem_cons_of_mem _ hr')) ?_
   by_cases hd:r.o.dst=some t
   ·rw[h r List.mem_cons_self hd]
    cases q r.i<;>simp[updF,hd,e]
   ·cases hp:p r.i<;>cases hq:q r.i<;>simp[updF,hd,e]
theorem foldE_none {p:Nat→Bool}{t:Nat}:∀ {L:List Rec}{f:Nat→Option AV},(∀ r∈L,r.o.dst=some t→p r.i=false)→foldE p L f t=f t
 | [],f,h=>rfl
 | r :: L,f,h=>by
   rw[foldE,foldE_none (fun r' hr'=>h r' (List.mem_cons_of_mem _ hr'))]
   by_cases hd:r.o.dst=some t
   ·rw[h r List.mem_cons_self hd];rfl
   ·cases p r.i<;>simp[updF,hd]
theorem Run.env {L:List Rec}{e e2:Env}{S S2:St}(hr:Run P K ih ops n L e S e2 S2):∀ (f:Nat→Option AV),(∀ t a,eget e t=some a→f t=some a)→∀ t a,eget e2 t=some a→foldE (fun _=>true) L f t=some a:=by
 induction hr with
 | nil=>intro f hf t a h;exact hf t a h
 | cons h1 h2 ihh=>
   rename_i r L e1 e2 S2
   intro f hf t a h
   refine ihh _ (fun t a hta=>?_) t a h
   have hp:=aput_upd h1.put
   simp only[if_true]
   cases hd:r.o.dst with
   | none=>
     rw[hd]at hp
     obtain rfl:e1=r.env:=hp
     simp only[updF,hd,reduceCtorEq,if_false]
     exact hf t a hta
   | some d=>
     rw[hd]at hp
     rcases hp.2 t a hta with ⟨rfl,rfl⟩|⟨hne,h3⟩
     ·simp[updF,hd]
     ·have:¬ (r.o.dst=some t):=by rw[hd];intro e;exact hne (Option.some.inj e).symm
      have e:d≠t:=fun e=>hne e.symm
      simp only[updF,hd,Option.some.injEq,e,if_false]
      exact hf t a h3
end
end Am
end
