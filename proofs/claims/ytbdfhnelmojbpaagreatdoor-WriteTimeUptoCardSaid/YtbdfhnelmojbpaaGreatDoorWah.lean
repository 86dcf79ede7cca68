/- A machine for closed runs: code that was turned into functions is sound, as its operations are. No program in sight. -/
import Derived.Test.YtbdfhnelmojbpaaGreatDoorWag
set_option linter.unusedVariables false
set_option linter.unusedSimpArgs false
section
namespace Am
open Go
noncomputable section
variable {P:Program}{K:Known}
def OpR (P:Program) (K:Known) (nt:Nat) (o:Oper) (env:Env) (S:St) (env1:Env) (S1:St):Prop:=
 S.nx≤S1.nx∧∀ m a w,R S.lk m w→Fre m S.nx S1.nx→Gl K m→EnvOk m env a.tmps→a.tmps.size=nt→a.defers = []→∀ (next:Act→World→Prop) (Q:Exit→Act→World→Prop),
  (∀ m' a' w',Step K.g m S.lk S.nx w m' S1.lk S1.nx w'→EnvOk m' env1 a'.tmps→a'.tmps.size=nt→a'.defers = []→next a' w')→o.wp P a w next Q
def StepR (P:Program) (K:Known) (nt:Nat) (all:List Oper) (o:Oper) (env:Env) (S:St) (env1:Env) (S1:St):Prop:=
 (awant all env o=some true∧OpR P K nt o env S env1 S1)∨(awant all env o=some false∧S1=S∧∀ (m:Map) (a:Act),EnvOk m env a.tmps→a.tmps.size=nt→EnvOk m env1 (a.put o.dst undef).tmps∧(a.put o.dst undef).tmps.size=nt)
def RegR (P:Program) (K:Known) (nt:Nat) (ops:Array Oper) (l:List Oper) (env:Env) (S:St) (env':Env) (S':St):Prop:=
 S.nx≤S'.nx∧∀ m a w,R S.lk m w→Fre m S.nx S'.nx→Gl K m→EnvOk m env a.tmps→a.tmps.size=nt→a.defers = []→∀ Q:Exit→Act→World→Prop,
  (∀ m' a' w',Step K.g m S.lk S.nx w m' S'.lk S'.nx w'→EnvOk m' env' a'.tmps→a'.tmps.size=nt→a'.defers = []→Q .normal a' w')→wpList P ops Q l a w
def SoundAt (P:Program) (K:Known) (c:Code) (nt:Nat) (env:Env) (S:St) (o:Out) (env':Env) (S':St):Prop:=
 S.nx≤S'.nx∧∀ m a w,R S.lk m w→Fre m S.nx S'.nx→Gl K m→EnvOk m env a.tmps→a.tmps.size=nt→a.defers = [] →
  ∀ Q:Exit→Act→World→Prop,(∀ m' a' w',Step K.g m S.lk S.nx w m' S'.lk S'.nx w'→EnvOk m' env' a'.tmps→a'.tmps.size=nt→a'.defers = []→Q o.ex a' w')→c.wp P Q a w
def HOk (P:Program) (K:Known) (ih:H):Prop:=∀ c nt kN kR n t S o1 e1 S1,ih c nt kN kR n t S=.out o1 e1 S1 →
 ∃ o n' t' S',((o=.norm∧kN n' t' S'=.out o1 e1 S1)∨(o=.ret∧kR n' t' S'=.out o1 e1 S1))∧SoundAt P K c nt ⟨n,t⟩ S o ⟨n',t'⟩ S'
def CopOk (P:Program) (K:Known) (nt:Nat) (all:List Oper) (o:Oper) (q:H→G→G):Prop:=∀ ih k n t S o1 e1 S1,HOk P K ih→q ih k n t S=.out o1 e1 S1 →
 ∃ n' t' S',k n' t' S'=.out o1 e1 S1∧StepR P K nt all o ⟨n,t⟩ S ⟨n',t'⟩ S'
def CopsOk (P:Program) (K:Known) (nt:Nat) (ops:Array Oper) (l:List Oper) (q:H→G→G):Prop:=∀ ih k n t S o1 e1 S1,HOk P K ih→q ih k n t S=.out o1 e1 S1 →
 ∃ n' t' S',k n' t' S'=.out o1 e1 S1∧RegR P K nt ops l ⟨n,t⟩ S ⟨n',t'⟩ S'
def sel (kN kR:G) (kE:Nat→G):Out→G
 | .norm=>kN
 | .ret=>kR
 | .exit i=>kE i
def CodeOk (P:Program) (K:Known) (nt:Nat) (c:Code) (q:C):Prop:=∀ ih kN kR kE n t S o1 e1 S1,HOk P K ih→q ih kN kR kE n t S=.out o1 e1 S1 →
 ∃ o n' t' S',sel kN kR kE o n' t' S'=.out o1 e1 S1∧SoundAt P K c nt ⟨n,t⟩ S o ⟨n',t'⟩ S'
theorem gP_ok:∀ k d,∃ g,gP k d=.mk g∧∀ U,g U=U.get d
 | 0,d=>⟨_,rfl,fun U=>rfl⟩
 | k+1,d=>by
   obtain ⟨g,hg,hg'⟩:=gP_ok k (d / 4)
   have hm:d % 4=0∨d % 4=1∨d % 4=2∨d % 4=3:=by omega
   have hv:∀ v:Option AV,(Bool.rec none v (Nat.beq d 0):Option AV)=(T.vl v).get d:=fun v=>rfl
   rcases hm with m|m|m|m
   ·refine ⟨fun U=>T.rec (motive:=fun _=>Option AV) (fun v=>Bool.rec none v (Nat.beq d 0)) (fun a _ _ _ _ _ _ _=>g a) U,by unfold gP;rw[hg];show (match d % 4 with|0=>_|1=>_|2=>_|_=>_)=_;rw[m];rfl,fun U=>?_⟩
    cases U with
    | vl v=>rfl
    | nd a b c e=>rw[T.get_nd,if_pos m];exact hg' a
   ·have m0:¬ d % 4=0:=by omega
    refine ⟨fun U=>T.rec (motive:=fun _=>Option AV) (fun v=>Bool.rec none v (Nat.beq d 0)) (fun _ b _ _ _ _ _ _=>g b) U,by unfold gP;rw[hg];show (match d % 4 with|0=>_|1=>_|2=>_|_=>_)=_;rw[m];rfl,fun U=>?_⟩
    cases U with
    | vl v=>rfl
    | nd a b c e=>rw[T.get_nd,if_neg m0,if_pos m];exact hg' b
   ·have m0:¬ d % 4=0:=by omega
    have m1:¬ d % 4=1:=by omega
    refine ⟨fun U=>T.rec (motive:=fun _=>Option AV) (fun v=>Bool.rec none v (Nat.beq d 0)) (fun _ _ c _ _ _ _ _=>g c) U,by unfold gP;rw[hg];show (match d % 4 with|0=>_|1=>_|2=>_|_=>_)=_;rw[m];rfl,fun U=>?_⟩
    cases U with
    | vl v=>rfl
    | nd a b c e=>rw[T.get_nd,if_neg m0,if_neg m1,if_pos m];exact hg' c
   ·have m0:¬ d % 4=0:=by omega
    have m1:¬ d % 4=1:=by omega
    have m2:¬ d % 4=2:=by omega
    refine ⟨fun U=>T.rec (motive:=fun _=>Option AV) (fun v=>Bool.rec none v (Nat.beq d 0)) (fun _ _ _ e _ _ _ _=>g e) U,by unfold gP;rw[hg];show (match d % 4 with|0=>_|1=>_|2=>_|_=>_)=_;rw[m];rfl,fun U=>?_⟩
    cases U with
    | vl v=>rfl
    | nd a b c e=>rw[T.get_nd,if_neg m0,if_neg m1,if_neg m2];exact hg' e
theorem pP_ok:∀ k d,∃ p,pP k d=.mk p∧∀ x U,p x U=U.put x d
 | 0,d=>⟨_,rfl,fun x U=>rfl⟩
 | k+1,d=>by
   obtain ⟨g,hg,hg'⟩:=pP_ok k (d / 4)
   have hm:d % 4=0∨d % 4=1∨d % 4=2∨d % 4=3:=by omega
   rcases hm with m|m|m|m
   ·refine ⟨fun x U=>T.rec (motive:=fun _=>T AV) (fun v=>Bool.rec (.vl v) (.vl x) (Nat.beq d 0)) (fun a b c e _ _ _ _=>.nd (g x a) b c e) U,by unfold pP;rw[hg];show (match d % 4 with|0=>_|1=>_|2=>_|_=>_)=_;rw[m];rfl,fun x U=>?_⟩
    cases U with
    | vl v=>rfl
    | nd a b c e=>rw[T.put_nd,if_pos m,← hg']
   ·have m0:¬ d % 4=0:=by omega
    refine ⟨fun x U=>T.rec (motive:=fun _=>T AV) (fun v=>Bool.rec (.vl v) (.vl x) (Nat.beq d 0)) (fun a b c e _ _ _ _=>.nd a (g x b) c e) U,by unfold pP;rw[hg];show (match d % 4 with|0=>_|1=>_|2=>_|_=>_)=_;rw[m];rfl,fun x U=>?_⟩
    cases U with
    | vl v=>rfl
    | nd a b c e=>rw[T.put_nd,if_neg m0,if_pos m,← hg']
   ·have m0:¬ d % 4=0:=by omega
    have m1:¬ d % 4=1:=by omega
    refine ⟨fun x U=>T.rec (motive:=fun _=>T AV) (fun v=>Bool.rec (.vl v) (.vl x) (Nat.beq d 0)) (fun a b c e _ _ _ _=>.nd a b (g x c) e) U,by unfold pP;rw[hg];show (match d % 4 with|0=>_|1=>_|2=>_|_=>_)=_;rw[m];rfl,fun x U=>?_⟩
    cases U with
    | vl v=>rfl
    | nd a b c e=>rw[T.put_nd,if_neg m0,if_neg m1,if_pos m,← hg']
   ·have m0:¬ d % 4=0:=by omega
    have m1:¬ d % 4=1:=by omega
    have m2:¬ d % 4=2:=by omega
    refine ⟨fun x U=>T.rec (motive:=fun _=>T AV) (fun v=>Bool.rec (.vl v) (.vl x) (Nat.beq d 0)) (fun a b c e _ _ _ _=>.nd a b c (g x e)) U,by unfold pP;rw[hg];show (match d % 4 with|0=>_|1=>_|2=>_|_=>_)=_;rw[m];rfl,fun x U=>?_⟩
    cases U with
    | vl v=>rfl
    | nd a b c e=>rw[T.put_nd,if_neg m0,if_neg m1,if_neg m2,← hg']
theorem opt_self (x:Option AV):(Option.rec (motive:=fun _=>Option AV) none (fun a=>some a) x)=x:=by cases x<;>rfl
theorem kcode_ok (x:Operand) (hx:∀ t,x≠.tmp t) (n:Nat):(Nat.add (kcode K x) 0)<2 ^ 192∧∀ t,evo K ⟨n,t⟩ x=dec (Nat.add (kcode K x) 0) (Option.rec (motive:=fun _=>Option AV) none (fun a=>some a) (evoT x K enew)):=by
 have e:Nat.add (kcode K x) 0=kcode K x:=rfl
 have e2:∀ t,evo K ⟨n,t⟩ x=evoT x K enew:=fun t=>by cases x<;>first|rfl|exact absurd rfl (hx _)
 rw[e,opt_self]
 unfold kcode
 cases hv:evoT x K enew with
 | none=>exact ⟨by decide,fun t=>by rw[e2,hv];rfl⟩
 | some v=>
   refine ⟨ccap_lt _,fun t=>?_⟩
   rw[e2,hv]
   show some v=dec (ccap (enc v)) (some v)
   rcases dec_ccap v (some v)with h|h
   ·rw[h];rfl
   ·exact h.symm
theorem oc_ok (x:Operand) (nt:Nat):∃ f g,ocB K x=.mk f∧bxB K nt x=.mk g∧∀ n,f n<2 ^ 192∧∀ t,evo K ⟨n,t⟩ x=dec (f n) (g t):=by
 cases x with
 | tmp t=>
   obtain ⟨g,hg,hg'⟩:=gP_ok (dep nt) t
   exact ⟨_,g,rfl,hg,fun n=>⟨slot_lt n t,fun U=>by rw[hg'];rfl⟩⟩
 | const v=>exact ⟨_,_,rfl,rfl,fun n=>kcode_ok (.const v) (fun _ h=>by cases h) n⟩
 | global v=>exact ⟨_,_,rfl,rfl,fun n=>kcode_ok (.global v) (fun _ h=>by cases h) n⟩
 | func v=>exact ⟨_,_,rfl,rfl,fun n=>kcode_ok (.func v) (fun _ h=>by cases h) n⟩
theorem reg_nil {nt:Nat}{ops:Array Oper}{env:Env}{S:St}:RegR P K nt ops [] env S env S:=
 ⟨Nat.le_refl _,fun m a w hR hf hG hE hn hd Q hq=>hq m a w (Step.refl hR) hE hn hd⟩
theorem reg_cons {nt:Nat}{ops:Array Oper}{o:Oper}{l:List Oper}{env env1 env':Env}{S S1 S':St}(h1:StepR P K nt ops.toList o env S env1 S1) (h2:RegR P K nt ops l env1 S1 env' S'):RegR P K nt ops (o :: l) env S env' S':=by
 obtain ⟨l2,q2⟩:=h2
 rcases h1 with ⟨hw,l1,q1⟩|⟨hw,rfl,q1⟩
 ·refine ⟨Nat.le_trans l1 l2,fun m a w hR hf hG hE hn hd Q hq=>?_⟩
  simp only[wpList,awant_ok hE hw,if_true]
  refine .inl (q1 m a w hR (hf.le l2) hG hE hn hd _ _ fun m1 a1 w1 st hE1 hn1 hd1=>?_)
  exact q2 m1 a1 w1 st.rel (hf.step st) (hG.ext st.ext) hE1 hn1 hd1 Q fun m' a' w' st'=>hq m' a' w' (st.trans st')
 ·refine ⟨l2,fun m a w hR hf hG hE hn hd Q hq=>?_⟩
  simp only[wpList,awant_ok hE hw,Bool.false_eq_true,if_false]
  obtain ⟨e1,e2⟩:=q1 m a hE hn
  exact q2 m _ w hR hf hG e1 e2 (by rw[put_defers];exact hd) Q hq
theorem cops_ok {nt:Nat}(hcop:∀ all o,∃ q,cop P K nt all o=.mk q∧CopOk P K nt all o q) (ops:Array Oper):∀ l:List Oper,∃ q,cops P K nt ops.toList l=.mk q∧CopsOk P K nt ops l q
 | []=>⟨_,rfl,fun ih k n t S o1 e1 S1 _ h=>⟨n,t,S,h,reg_nil⟩⟩
 | o :: l=>by
   obtain ⟨f,hf,hf'⟩:=hcop ops.toList o
   obtain ⟨g,hg,hg'⟩:=cops_ok hcop ops l
   refine ⟨fun ih k n t S=>f ih (g ih k) n t S,by unfold cops;rw[hf,hg];rfl,fun ih k n t S o1 e1 S1 hi h=>?_⟩
   obtain ⟨n1,t1,S2,h1,h2⟩:=hf' ih (g ih k) n t S o1 e1 S1 hi h
   obtain ⟨n2,t2,S3,h3,h4⟩:=hg' ih k n1 t1 S2 o1 e1 S1 hi h1
   exact ⟨n2,t2,S3,h3,reg_cons h2 h4⟩
theorem dih_ok {ih:H}(hi:HOk P K ih):Sound P K (dih ih):=by
 intro c nt env S o env' S' h
 unfold dih at h
 cases hr:ih c nt (fun n t S=>.out .norm ⟨n,t⟩ S) (fun n t S=>.out .ret ⟨n,t⟩ S) env.n env.t S with
 | bad l=>rw[hr]at h;cases h
 | out o1 e1 S1=>
   rw[hr]at h
   cases h
   obtain ⟨o2,n',t',S2,h1,h2⟩:=hi _ _ _ _ _ _ _ _ _ _ hr
   rcases h1 with ⟨rfl,h1⟩|⟨rfl,h1⟩
   ·cases h1;exact h2
   ·cases h1;exact h2
theorem done_eq (k:G) (n:Nat) (t:T AV) (S:St):done k n t S=k n t S:=by
 cases t<;>rfl
theorem sound_loop_more {b:Code}{nt:Nat}{env env1 env':Env}{S S1 S':St}{o:Out}(h1:SoundAt P K b nt env S .norm env1 S1) (h2:SoundAt P K (.loop b) nt env1 S1 o env' S'):SoundAt P K (.loop b) nt env S o env' S':=by
 obtain ⟨l1,q1⟩:=h1
 obtain ⟨l2,q2⟩:=h2
 refine ⟨Nat.le_trans l1 l2,fun m a w hR hf hG hE hn hd Q hq=>?_⟩
 refine wp_mono (wp_unroll (Q:=fun e a w=>Q e a w∧(e=.normal∨(∃ id,e=.exit id)∨e=.ret)) (fun e a w hq=>hq.2) ?_) (fun e a w hq=>hq.1)
 refine q1 m a w hR (hf.le l2) hG hE hn hd _ fun m1 a1 w1 st hE1 hn1 hd1=>?_
 refine q2 m1 a1 w1 st.rel (hf.step st) (hG.ext st.ext) hE1 hn1 hd1 _ fun m' a' w' st' hE' hn' hd'=>⟨hq m' a' w' (st.trans st') hE' hn' hd',?_⟩
 cases o with
 | norm=>exact .inl rfl
 | exit i=>exact .inr (.inl ⟨i,rfl⟩)
 | ret=>exact .inr (.inr rfl)
theorem sound_loop_end {b:Code}{nt:Nat}{env env':Env}{S S':St}{o:Out}(ho:o≠.norm) (h1:SoundAt P K b nt env S o env' S'):SoundAt P K (.loop b) nt env S o env' S':=by
 obtain ⟨l1,q1⟩:=h1
 refine ⟨l1,fun m a w hR hf hG hE hn hd Q hq=>?_⟩
 refine wp_mono (wp_unroll (Q:=fun e a w=>Q e a w∧(e=.normal∨(∃ id,e=.exit id)∨e=.ret)) (fun e a w hq=>hq.2) ?_) (fun e a w hq=>hq.1)
 refine q1 m a w hR hf hG hE hn hd _ fun m1 a1 w1 st hE1 hn1 hd1=>?_
 have:=hq m1 a1 w1 st hE1 hn1 hd1
 cases o with
 | norm=>exact absurd rfl ho
 | exit i=>exact ⟨this,.inr (.inl ⟨i,rfl⟩)⟩
 | ret=>exact ⟨this,.inr (.inr rfl)⟩
theorem cloop_ok {b:Code}{nt:Nat}{q:C}(hq:CodeOk P K nt b q) {ih:H}(hi:HOk P K ih) (kN kR:G) (kE:Nat→G):∀ (r:Nat) n t S o1 e1 S1,cloop q ih kR kE r n t S=.out o1 e1 S1 →
 ∃ o n' t' S',sel kN kR kE o n' t' S'=.out o1 e1 S1∧SoundAt P K (.loop b) nt ⟨n,t⟩ S o ⟨n',t'⟩ S'
 | 0,n,t,S,o1,e1,S1,h=>by cases h
 | r+1,n,t,S,o1,e1,S1,h=>by
   have h:q ih (done (cloop q ih kR kE r)) kR kE n t S=.out o1 e1 S1:=h
   obtain ⟨o,n',t',S',h1,h2⟩:=hq _ _ _ _ _ _ _ _ _ _ hi h
   cases o with
   | norm=>
     have h1:done (cloop q ih kR kE r) n' t' S'=.out o1 e1 S1:=h1
     rw[done_eq]at h1
     obtain ⟨o2,n2,t2,S2,h3,h4⟩:=cloop_ok hq hi kN kR kE r n' t' S' o1 e1 S1 h1
     exact ⟨o2,n2,t2,S2,h3,sound_loop_more h2 h4⟩
   | exit i=>exact ⟨.exit i,n',t',S',h1,sound_loop_end (fun h=>by cases h) h2⟩
   | ret=>exact ⟨.ret,n',t',S',h1,sound_loop_end (fun h=>by cases h) h2⟩
theorem sound_seq {x y:Code}{nt:Nat}{env env1 env':Env}{S S1 S':St}{o:Out}(h1:SoundAt P K x nt env S .norm env1 S1) (h2:SoundAt P K y nt env1 S1 o env' S'):SoundAt P K (.seq x y) nt env S o env' S':=by
 obtain ⟨l1,q1⟩:=h1
 obtain ⟨l2,q2⟩:=h2
 refine ⟨Nat.le_trans l1 l2,fun m a w hR hf hG hE hn hd Q hq=>wp_seq ?_⟩
 refine q1 m a w hR (hf.le l2) hG hE hn hd _ fun m1 a1 w1 st hE1 hn1 hd1=>?_
 exact q2 m1 a1 w1 st.rel (hf.step st) (hG.ext st.ext) hE1 hn1 hd1 Q fun m' a' w' st'=>hq m' a' w' (st.trans st')
theorem sound_seq_end {x y:Code}{nt:Nat}{env env':Env}{S S':St}{o:Out}(ho:o≠.norm) (h1:SoundAt P K x nt env S o env' S'):SoundAt P K (.seq x y) nt env S o env' S':=by
 obtain ⟨l1,q1⟩:=h1
 refine ⟨l1,fun m a w hR hf hG hE hn hd Q hq=>wp_seq ?_⟩
 refine q1 m a w hR hf hG hE hn hd _ fun m1 a1 w1 st hE1 hn1 hd1=>?_
 have:=hq m1 a1 w1 st hE1 hn1 hd1
 cases o with
 | norm=>exact absurd rfl ho
 | exit i=>exact this
 | ret=>exact this
theorem sound_block {id:Nat}{b:Code}{nt:Nat}{env env':Env}{S S':St}{o:Out}(h1:SoundAt P K b nt env S o env' S'):SoundAt P K (.block id b) nt env S (match o with
 | .exit i=>if i=id then .norm else .exit i
 | o=>o) env' S':=by
 obtain ⟨l1,q1⟩:=h1
 refine ⟨l1,fun m a w hR hf hG hE hn hd Q hq=>wp_block ?_⟩
 refine q1 m a w hR hf hG hE hn hd _ fun m1 a1 w1 st hE1 hn1 hd1=>?_
 have:=hq m1 a1 w1 st hE1 hn1 hd1
 cases o with
 | norm=>exact this
 | ret=>exact this
 | exit i=>
   simp only at this
   by_cases hi:i=id
   ·rw[if_pos hi]at this
    simp only[Out.ex,Out.exit',Exit.inBlock,hi,if_true]
    exact this
   ·rw[if_neg hi]at this
    simp only[Out.ex,Out.exit',Exit.inBlock,hi,if_false]
    exact this
theorem cc_ok (hK:KnownOk P K) {draw:Draw}(hD:DrawOk P K draw) (hcop:∀ nt all o,∃ q,cop P K nt all o=.mk q∧CopOk P K nt all o q) {nt:Nat}:∀ c:Code,∃ q,cc P K draw nt c=.mk q∧CodeOk P K nt c q
 | .skip=>⟨_,rfl,fun ih kN kR kE n t S o1 e1 S1 _ h=>⟨.norm,n,t,S,h,Nat.le_refl _,fun m a w hR hf hG hE hn hd Q hq=>wp_skip (hq m a w (Step.refl hR) hE hn hd)⟩⟩
 | .region id ops true=>⟨_,rfl,fun ih kN kR kE n t S o1 e1 S1 hi h=>by
  have h:cdraw draw nt id ops ih kN n t S=.out o1 e1 S1:=h
  unfold cdraw at h
  cases hr:draw (dih ih) ops nt id ⟨n,t⟩ S with
  | bad l=>rw[hr]at h;cases h
  | ok e S'=>
    rw[hr]at h
    obtain ⟨n',t'⟩:=e
    exact ⟨.norm,n',t',S',h,hD _ (dih_ok hi) _ _ _ _ _ _ _ hr⟩⟩
 | .region id ops false=>by
   obtain ⟨f,hf,hf'⟩:=cops_ok (hcop nt) ops ops.toList
   refine ⟨fun ih kN _ _ n t S=>f ih kN n t S,by unfold cc;rw[hf];rfl,fun ih kN kR kE n t S o1 e1 S1 hi h=>?_⟩
   obtain ⟨n',t',S',h1,l1,q1⟩:=hf' _ _ _ _ _ _ _ _ hi h
   exact ⟨.norm,n',t',S',h1,l1,fun m a w hR hf hG hE hn hd Q hq=>wp_region_list (q1 m a w hR hf hG hE hn hd Q hq)⟩
 | .seq a b=>by
   obtain ⟨f,hf,hf'⟩:=cc_ok hK hD hcop a
   obtain ⟨g,hg,hg'⟩:=cc_ok hK hD hcop b
   refine ⟨fun ih kN kR kE n t S=>f ih (g ih kN kR kE) kR kE n t S,by unfold cc;rw[hf,hg];rfl,fun ih kN kR kE n t S o1 e1 S1 hi h=>?_⟩
   obtain ⟨o,n1,t1,S2,h1,h2⟩:=hf' _ _ _ _ _ _ _ _ _ _ hi h
   cases o with
   | norm=>
     obtain ⟨o,n3,t3,S3,h3,h4⟩:=hg' _ _ _ _ _ _ _ _ _ _ hi h1
     exact ⟨o,n3,t3,S3,h3,sound_seq h2 h4⟩
   | exit i=>exact ⟨.exit i,n1,t1,S2,h1,sound_seq_end (fun h=>by cases h) h2⟩
   | ret=>exact ⟨.ret,n1,t1,S2,h1,sound_seq_end (fun h=>by cases h) h2⟩
 | .cond x a b=>by
   obtain ⟨h,gx,hx,_,hx'⟩:=oc_ok (K:=K) x nt
   obtain ⟨f,hf,hf'⟩:=cc_ok hK hD hcop a
   obtain ⟨g,hg,hg'⟩:=cc_ok hK hD hcop b
   refine ⟨fun ih kN kR kE n t S=>Bool.rec (Bool.rec (.bad [888]) (g ih kN kR kE n t S) (Nat.beq (h n) 2)) (f ih kN kR kE n t S) (Nat.beq (h n) 34),by unfold cc;rw[hx,hf,hg];rfl,fun ih kN kR kE n t S o1 e1 S1 hi hh=>?_⟩
   obtain ⟨_,hev⟩:=hx' n
   have hh:(Bool.rec (Bool.rec (.bad [888]) (g ih kN kR kE n t S) (Nat.beq (h n) 2)) (f ih kN kR kE n t S) (Nat.beq (h n) 34):Fin)=.out o1 e1 S1:=hh
   cases hb:Nat.beq (h n) 34 with
   | true=>
     rw[hb]at hh
     rw[Nat.beq_eq]at hb
     obtain ⟨o,n1,t1,S2,h1,l1,q1⟩:=hf' _ _ _ _ _ _ _ _ _ _ hi hh
     refine ⟨o,n1,t1,S2,h1,l1,fun m a w hR hf hG hE hn hd Q hq=>wp_cond_true ?_ (q1 m a w hR hf hG hE hn hd Q hq)⟩
     have h3:=hev t
     rw[hb]at h3
     have:=evo_ok hG hE x (.b true) (h3.trans rfl)
     simpa [cvo]using this.symm
   | false=>
     rw[hb]at hh
     cases hb2:Nat.beq (h n) 2 with
     | false=>rw[hb2]at hh;cases hh
     | true=>
     rw[hb2]at hh
     rw[Nat.beq_eq]at hb2
     obtain ⟨o,n1,t1,S2,h1,l1,q1⟩:=hg' _ _ _ _ _ _ _ _ _ _ hi hh
     refine ⟨o,n1,t1,S2,h1,l1,fun m a w hR hf hG hE hn hd Q hq=>wp_cond_false ?_ (q1 m a w hR hf hG hE hn hd Q hq)⟩
     have h3:=hev t
     rw[hb2]at h3
     have:=evo_ok hG hE x (.b false) (h3.trans rfl)
     simpa [cvo]using this.symm
 | .block id b=>by
   obtain ⟨f,hf,hf'⟩:=cc_ok hK hD hcop b
   refine ⟨fun ih kN kR kE n t S=>f ih kN kR (fun i=>Bool.rec (kE i) kN (Nat.beq i id)) n t S,by unfold cc;rw[hf];rfl,fun ih kN kR kE n t S o1 e1 S1 hi h=>?_⟩
   obtain ⟨o,n1,t1,S2,h1,h2⟩:=hf' _ _ _ _ _ _ _ _ _ _ hi h
   refine ⟨_,n1,t1,S2,?_,sound_block h2⟩
   cases o with
   | norm=>exact h1
   | ret=>exact h1
   | exit i=>
     have h1:(Bool.rec (motive:=fun _=>G) (kE i) kN (Nat.beq i id)) n1 t1 S2=.out o1 e1 S1:=h1
     simp only
     by_cases hi:i=id
     ·rw[if_pos hi];rw[bq hi]at h1;exact h1
     ·rw[if_neg hi];rw[bqn hi]at h1;exact h1
 | .loop b=>by
   obtain ⟨f,hf,hf'⟩:=cc_ok hK hD hcop b
   exact ⟨fun ih kN kR kE n t S=>cloop f ih kR kE rounds n t S,by unfold cc;rw[hf];rfl,fun ih kN kR kE n t S o1 e1 S1 hi h=>cloop_ok hf' hi kN kR kE rounds n t S o1 e1 S1 h⟩
 | .exit id=>⟨_,rfl,fun ih kN kR kE n t S o1 e1 S1 _ h=>⟨.exit id,n,t,S,h,Nat.le_refl _,fun m a w hR hf hG hE hn hd Q hq=>wp_exit (hq m a w (Step.refl hR) hE hn hd)⟩⟩
 | .ret=>⟨_,rfl,fun ih kN kR kE n t S o1 e1 S1 _ h=>⟨.ret,n,t,S,h,Nat.le_refl _,fun m a w hR hf hG hE hn hd Q hq=>wp_ret (hq m a w (Step.refl hR) hE hn hd)⟩⟩
 | .rangeFunc _ _ _ _=>⟨_,rfl,fun ih kN kR kE n t S o1 e1 S1 _ h=>by cases h⟩
 | .scope _=>⟨_,rfl,fun ih kN kR kE n t S o1 e1 S1 _ h=>by cases h⟩
 | .label _=>⟨_,rfl,fun ih kN kR kE n t S o1 e1 S1 _ h=>by cases h⟩
 | .goto _=>⟨_,rfl,fun ih kN kR kE n t S o1 e1 S1 _ h=>by cases h⟩
 | .refuse _=>⟨_,rfl,fun ih kN kR kE n t S o1 e1 S1 _ h=>by cases h⟩
theorem hN_ok (hK:KnownOk P K) {draw:Draw}(hD:DrawOk P K draw) (hcop:∀ nt all o,∃ q,cop P K nt all o=.mk q∧CopOk P K nt all o q):∀ fuel,HOk P K (hN P K draw fuel)
 | 0=>fun c nt kN kR n t S o1 e1 S1 h=>by cases h
 | fuel+1=>fun c nt kN kR n t S o1 e1 S1 h=>by
   have h:unB (cc P K draw nt c) (fun q=>q (hN P K draw fuel) kN kR (fun i _ _ _=>.bad [997,i]) n t S)=.out o1 e1 S1:=h
   obtain ⟨q,hq,hq'⟩:=cc_ok hK hD hcop (nt:=nt) c
   rw[hq]at h
   obtain ⟨o,n1,t1,S2,h1,h2⟩:=hq' _ _ _ _ _ _ _ _ _ _ (hN_ok hK hD hcop fuel) h
   cases o with
   | norm=>exact ⟨_,n1,t1,S2,.inl ⟨rfl,h1⟩,h2⟩
   | ret=>exact ⟨_,n1,t1,S2,.inr ⟨rfl,h1⟩,h2⟩
   | exit i=>cases h1
end
end Am
end
section
namespace Am
open Go
noncomputable section
variable {P:Program}{K:Known}
def Cop1Ok (P:Program) (K:Known) (nt:Nat) (dst:Option Tmp) (op:Op) (q:H→G→G):Prop:=∀ ih k n t S o1 e1 S1,HOk P K ih→q ih k n t S=.out o1 e1 S1 →
 ∃ n' t' S',k n' t' S'=.out o1 e1 S1∧∀ o:Oper,o.dst=dst→o.op=op→OpR P K nt o ⟨n,t⟩ S ⟨n',t'⟩ S'
def OpV (P:Program) (K:Known) (o:Oper) (ρ:Rho) (S:St) (r:AV) (S1:St):Prop:=
 S.nx≤S1.nx∧∀ m a w,R S.lk m w→Fre m S.nx S1.nx→Gl K m→RhoOk m ρ a.eval→∀ (next:Act→World→Prop) (Q:Exit→Act→World→Prop),
  (∀ m' v w',Step K.g m S.lk S.nx w m' S1.lk S1.nx w'→cvo m' r=some v→next (a.put o.dst v) w')→o.wp P a w next Q
theorem opR_upd {nt:Nat}{o:Oper}{env env1:Env}{S S1:St}{v:AV}(h:OpV P K o (evo K env) S v S1) (hu:Upd nt env o.dst v env1):OpR P K nt o env S env1 S1:=by
 obtain ⟨l1,q1⟩:=h
 refine ⟨l1,fun m a w hR hf hG hE hn hd next Q hq=>q1 m a w hR hf hG (evo_ok hG hE) _ _ fun m1 u w1 st hv=>?_⟩
 obtain ⟨e1,e2⟩:=upd_ok (u:=u) hu (hE.ext st.ext) hn hv
 exact hq m1 _ w1 st e1 e2 (by rw[put_defers];exact hd)
theorem aft_out {x:Option Env}{k:G}{S:St}{o1:Out}{e1:Env}{S1:St}(h:aft x k S=.out o1 e1 S1):∃ n t,x=some ⟨n,t⟩∧k n t S=.out o1 e1 S1:=by
 cases x with
 | none=>cases h
 | some e=>obtain ⟨n,t⟩:=e;exact ⟨n,t,rfl,h⟩
theorem noIh_ok:Sound P K noIh:=fun _ _ _ _ _ _ _ h=>by cases h
theorem opV_aop (hK:KnownOk P K) {ih:IH}(hS:Sound P K ih) {S S1:St}{ρ:Rho}{o:Oper}{r:AV}(h:aop P K ih S ρ o.op=.ok r S1):OpV P K o ρ S r S1:=aop_ok hK hS h
theorem opV_aop0 (hK:KnownOk P K) {ih:IH}(hS:Sound P K ih) {S S1:St}{ρ:Rho}{o:Oper}{r:AV}(h:aop0 P K ih S ρ o.op=.ok r S1):OpV P K o ρ S r S1:=aop0_ok hK hS h
theorem mid_ok (hK:KnownOk P K) (nt:Nat) (dst:Option Tmp) (op:Op):Cop1Ok P K nt dst op (mid P K nt dst op):=by
 intro ih k n t S o1 e1 S1 hi h
 unfold mid at h
 cases ha:aop P K noIh S (evo K ⟨n,t⟩) op with
 | bad l=>rw[ha]at h;cases h
 | ok v S'=>
   rw[ha]at h
   have h:aft (aput nt ⟨n,t⟩ dst v) k S'=.out o1 e1 S1:=h
   obtain ⟨n',t',h1,h2⟩:=aft_out h
   refine ⟨n',t',S',h2,fun o ho1 ho2=>?_⟩
   subst ho1 ho2
   exact opR_upd (opV_aop hK noIh_ok ha) (aput_upd h1)
theorem upd_place {nt n d c:Nat}{t:T AV}{x:Option AV}{v:AV}(hd:d<nt) (hc:c<2 ^ 192) (hv:∀ y,dec c x=some y→y=v):Upd nt ⟨n,t⟩ (some d) v ⟨pset n d c,tcap c x t d⟩:=
 ⟨hd,fun k a hk=>by
  rcases eget_place hc hk with ⟨h1,h2⟩|h1
  ·exact .inl ⟨h1,hv a h2⟩
  ·exact .inr h1⟩
theorem upd_code {nt n d c:Nat}{t:T AV}{v:AV}(hd:d<nt) (hc:c<2 ^ 192) (hv:∀ bx,dec c bx=some v):Upd nt ⟨n,t⟩ (some d) v ⟨pset n d c,t⟩:=
 ⟨hd,fun k a hk=>eget_pset hc hv hk⟩
theorem env_at {m:Map}{n d c:Nat}{t:T AV}{x:Option AV}{tmps:Array Value}{u:Value}(hE:EnvOk m ⟨n,t⟩ tmps) (hc:c<2 ^ 192) (hu:tmps[d]?=some u) (hv:∀ y,dec c x=some y→cvo m y=some u):EnvOk m ⟨pset n d c,tcap c x t d⟩ tmps:=by
 intro k a hk
 rcases eget_place hc hk with ⟨rfl,h2⟩|⟨_,h1⟩
 ·exact ⟨u,hu,hv a h2⟩
 ·exact hE k a h1
theorem env_place {m:Map}{nt n d c:Nat}{t:T AV}{x:Option AV}{a:Act}{u:Value}(hE:EnvOk m ⟨n,t⟩ a.tmps) (hn:a.tmps.size=nt) (hd:d<nt) (hc:c<2 ^ 192) (hv:∀ y,dec c x=some y→cvo m y=some u) :
 EnvOk m ⟨pset n d c,tcap c x t d⟩ (a.put (some d) u).tmps∧(a.put (some d) u).tmps.size=nt:=by
 refine ⟨fun k b hk=>?_,by simp[Act.put,hn]⟩
 rcases eget_place hc hk with ⟨rfl,h2⟩|⟨hne,h1⟩
 ·refine ⟨u,by simp[Act.put,hn,hd],hv b h2⟩
 ·obtain ⟨v,h3,h4⟩:=hE k b h1
  refine ⟨v,?_,h4⟩
  simp only[Act.put];rw[Array.getElem?_setIfInBounds_ne (fun e=>hne e.symm)];exact h3
theorem nz_place {n d c:Nat}{t:T AV}{x:Option AV}(hc:c<2 ^ 192) {k:Nat}{a:AV}(h:eget ⟨pset n d (nz c),t⟩ k=some a):(k=d∧dec c x=some a)∨(k≠d∧eget ⟨n,t⟩ k=some a):=by
 have e:nz c=if c=1 then 0 else c:=by
  show c*(1 - (2 - c))=_
  by_cases h:c=1
  ·subst h;rfl
  ·rw[if_neg h]
   rcases Nat.eq_zero_or_pos c with h0|h0
   ·subst h0;rfl
   ·have:1 - (2 - c)=1:=by omega
    rw[this,Nat.mul_one]
 unfold eget at h
 simp only at h
 rw[slot_pset (by rw[e];split;decide;exact hc)]at h
 by_cases hk:k=d
 ·rw[if_pos hk,e]at h
  split at h
  ·cases h
  ·rename_i h1
   exact .inl ⟨hk,by rw[dec_box x (t.get k) h1];exact h⟩
 ·rw[if_neg hk]at h
  exact .inr ⟨hk,h⟩
theorem wp_value {o:Oper}{a:Act}{w w':World}{v:Value}{next:Act→World→Prop}{Q:Exit→Act→World→Prop}(h:(execOp a.eval o).run P w=.ok (.value v) w') (hn:next (a.put o.dst v) w'):o.wp P a w next Q:=by
 unfold Oper.wp;rw[h];exact hn
theorem run_move {o:Oper}{ev:Operand→Value}{x:Operand}{w:World}(h:o.op=.move x∨o.op=.assign x):(execOp ev o).run P w=.ok (.value (ev x)) w:=by
 obtain ⟨dst,op,ty,pos,af,g⟩:=o
 rcases h with h|h<;>simp only at h<;>subst h<;>rfl
theorem move_opR {nt d:Nat}{o:Oper}{x:Operand}{n:Nat}{t:T AV}{S:St}{e1:Env}(ho:o.op=.move x∨o.op=.assign x) (hdst:o.dst=some d) (hd:d<nt)
 (he:∀ k a,eget e1 k=some a→(k=d∧evo K ⟨n,t⟩ x=some a)∨(k≠d∧eget ⟨n,t⟩ k=some a)):OpR P K nt o ⟨n,t⟩ S e1 S:=by
 refine ⟨Nat.le_refl _,fun m a w hR hf hG hE hn hdf next Q hq=>wp_value (run_move ho) ?_⟩
 refine hq m _ w (Step.refl hR) (fun k b hk=>?_) (by rw[hdst];simp[Act.put,hn]) (by rw[put_defers];exact hdf)
 rw[hdst]
 rcases he k b hk with ⟨rfl,h2⟩|⟨hne,h1⟩
 ·exact ⟨a.eval x,by simp[Act.put,hn,hd],evo_ok hG hE x b h2⟩
 ·obtain ⟨v,h3,h4⟩:=hE k b h1
  refine ⟨v,?_,h4⟩
  simp only[Act.put];rw[Array.getElem?_setIfInBounds_ne (fun e=>hne e.symm)];exact h3
def FastOk (P:Program) (K:Known) (nt:Nat) (dst:Option Tmp) (op:Op):Fast→Prop
 | .no=>True
 | .act q=>∀ m,Cop1Ok P K nt dst op m→Cop1Ok P K nt dst op (q m)
 | .yes v r=>∀ n t S,v n t S=0→r n t S<2 ^ 192∧∃ a,(∀ bx,dec (r n t S) bx=some a)∧∀ ih,aop0 P K ih S (evo K ⟨n,t⟩) op=.ok a S
theorem inD_ok {nt:Nat}{dst:Option Tmp}{op:Op}{f:Tmp→(Option AV→T AV→T AV)→Fast}(h:∀ d p,dst=some d→d<nt→(∀ x U,p x U=U.put x d)→FastOk P K nt dst op (f d p)):FastOk P K nt dst op (inD nt dst f):=by
 unfold inD
 cases dst with
 | none=>trivial
 | some d=>
   simp only
   rw[cnd_eq]
   split
   ·rename_i hb
    rw[blt_iff]at hb
    obtain ⟨p,hp,hp'⟩:=pP_ok (dep nt) d
    rw[hp]
    exact h d p rfl hb hp'
   ·trivial
theorem tcap_eq {p:Option AV→T AV→T AV}{d c:Nat}(hp:∀ x U,p x U=U.put x d) (x:Option AV) (U:T AV):(Bool.rec U (p x U) (Nat.beq c 1):T AV)=tcap c x U d:=by rw[hp];rfl
theorem fMove_ok {nt:Nat}{ty:TypeId}{dst:Option Tmp}{op:Op}{x:Operand}(ho:op=.move x∨op=.assign x) {f:Nat→Nat}{g:T AV→Option AV}(hfg:∀ n,f n<2 ^ 192∧∀ t,evo K ⟨n,t⟩ x=dec (f n) (g t)):FastOk P K nt dst op (fMove P nt ty dst f g):=by
 unfold fMove
 refine inD_ok fun d p hdst hd hp=>?_
 rw[cnd_eq]
 split
 ·intro m _ ih k n t S o1 e1 S1 hi h
  refine ⟨pset n d (nz (f n)),t,S,h,fun o ho1 ho2=>?_⟩
  refine move_opR (x:=x) (by rw[ho2];exact ho) (by rw[ho1];exact hdst) hd fun j a hj=>?_
  rw[(hfg n).2 t]
  exact nz_place (hfg n).1 hj
 ·intro m _ ih k n t S o1 e1 S1 hi h
  refine ⟨pset n d (f n),tcap (f n) (g t) t d,S,by rw[← tcap_eq hp];exact h,fun o ho1 ho2=>?_⟩
  refine move_opR (x:=x) (by rw[ho2];exact ho) (by rw[ho1];exact hdst) hd fun j a hj=>?_
  rw[(hfg n).2 t]
  exact eget_place (hfg n).1 hj
theorem crun_ok (hK:KnownOk P K) {ih:H}(hi:HOk P K ih) {S:St}{f:FuncId}{as:List AV}{kv:AV→St→Fin}{o1:Out}{e1:Env}{S1:St}(h:crun P K ih S f as kv=.out o1 e1 S1) :
 ∃ v S',kv v S'=.out o1 e1 S1∧S.nx≤S'.nx∧∀ m w args,R S.lk m w→Fre m S.nx S'.nx→Gl K m→cvs m as=some args →
   ((∀ args w,(callFunc f args).run P w=.ok (.enter f args) w)∧Calls P f args.toArray w (Got K m S w S' v))∨(∃ m' w' u,(callFunc f args.toArray).run P w=.ok (.value u) w'∧cvo m' v=some u∧Step K.g m S.lk S.nx w m' S'.lk S'.nx w'):=by
 unfold crun at h
 rw[cnd_eq]at h
 split at h
 ·rename_i he
  cases hfn:fnc P f with
  | none=>rw[hfn]at h;cases h
  | some fn=>
    rw[hfn]at h
    cases hb:fn.body with
    | none=>simp only[hb]at h;cases h
    | some c=>
      simp only[hb]at h
      rw[cnd_eq]at h
      split at h
      ·rename_i hl
       obtain ⟨n0,t0,he0⟩:∃ n0 t0,ienv as 0 enew=⟨n0,t0⟩:=⟨_,_,rfl⟩
       rw[he0]at h
       have h:ih c fn.ntmps (rk P K fn kv) (rk P K fn kv) n0 t0 S=.out o1 e1 S1:=h
       obtain ⟨o,n',t',S',h1,h2⟩:=hi _ _ _ _ _ _ _ _ _ _ h
       have h3:rk P K fn kv n' t' S'=.out o1 e1 S1:=by rcases h1 with ⟨_,h1⟩|⟨_,h1⟩<;>exact h1
       have ho:o=.norm∨o=.ret:=by rcases h1 with ⟨h1,_⟩|⟨h1,_⟩;exact .inl h1;exact .inr h1
       unfold rk at h3
       cases hv:ares P K ⟨n',t'⟩ S' fn.results.toList with
       | none=>rw[hv]at h3;cases h3
       | some v=>
         rw[hv]at h3
         let ihx:IH:=fun c' nt' env' S0=>@ite _ (c'=c∧nt'=fn.ntmps∧env'=⟨n0,t0⟩∧S0=S) (Classical.propDecidable _) (.ok o ⟨n',t'⟩ S') (.bad [])
         have hx:Sound P K ihx:=by
          intro c' nt' env' S0 o2 e2 S2 hh
          simp only[ihx]at hh
          split at hh
          ·rename_i hc
           obtain ⟨rfl,rfl,rfl,rfl⟩:=hc
           cases hh
           exact h2
          ·cases hh
         have hcall:acallf P K ihx S f as=.ok v S':=by
          unfold acallf
          have hix:ihx c fn.ntmps (ienv as 0 enew) S=.ok o ⟨n',t'⟩ S':=by simp only[ihx,he0,and_self,if_true]
          rw[he,cond_true,hfn]
          simp only[hb,hl,cond_true,hix]
          rcases ho with rfl|rfl<;>simp only[hv]
         obtain ⟨q1,q2⟩:=acallf_ok hK hx hcall
         exact ⟨v,S',h3,q1,q2⟩
      ·cases h
 ·rename_i he
  cases hx:aext P K S f as with
  | none=>rw[hx]at h;cases h
  | some p=>
    obtain ⟨v,S'⟩:=p
    rw[hx]at h
    have h:kv v S'=.out o1 e1 S1:=h
    have hcall:acallf P K noIh S f as=.ok v S':=by
     unfold acallf
     rw[Bool.eq_false_iff.2 he,cond_false,hx]
    obtain ⟨q1,q2⟩:=acallf_ok hK noIh_ok hcall
    exact ⟨v,S',h,q1,q2⟩
theorem gcall_ok (hK:KnownOk P K) (nt:Nat) (dst:Option Tmp) (op:Op):Cop1Ok P K nt dst op (gcall P K nt dst op):=by
 intro ih k n t S o1 e1 S1 hi h
 unfold gcall at h
 cases hc:acallee (evo K ⟨n,t⟩) op with
 | none=>rw[hc]at h;cases h
 | some p=>
   obtain ⟨f,as⟩:=p
   rw[hc]at h
   have h:crun P K ih S f as (fun v S'=>aft (aput nt ⟨n,t⟩ dst v) k S')=.out o1 e1 S1:=h
   obtain ⟨v,S',h1,l1,q1⟩:=crun_ok hK hi h
   obtain ⟨n',t',h2,h3⟩:=aft_out h1
   refine ⟨n',t',S',h3,fun o ho1 ho2=>?_⟩
   subst ho1 ho2
   refine opR_upd (v:=v) ⟨l1,fun m a w hR hf hG hρ next Q hn=>?_⟩ (aput_upd h2)
   obtain ⟨args,ha,hrun⟩:=acallee_ok (P:=P) hρ hc
   unfold Oper.wp
   rw[hrun]
   rcases q1 m w args hR hf hG ha with ⟨he,hcalls⟩|⟨m',w',u,h4,h5,h6⟩
   ·rw[he]
    refine Calls.mono hcalls ?_
    rintro e w' ⟨m',u,rfl,h4,h5⟩
    exact hn m' u w' h5 h4
   ·rw[h4]
    exact hn m' u w' h6 h5
theorem arg_ok (nt nt':Nat):∀ (l:List Operand) (i:Nat),∃ fa fb,argN K l i=.mk fa∧argT K nt nt' l i=.mk fb∧∀ (m:Map) (a:Act) (n:Nat) (t:T AV),Gl K m→EnvOk m ⟨n,t⟩ a.tmps→∀ (acc:Nat) (u:T AV) (tmps:Array Value),EnvOk m ⟨acc,u⟩ tmps →
 (∀ j x,l[j]?=some x→tmps[i+j]?=some (a.eval x))→EnvOk m ⟨fa n acc,fb n t u⟩ tmps
 | [],i=>⟨_,_,rfl,rfl,fun m a n t hG hE acc u tmps h _=>h⟩
 | x :: l,i=>by
   obtain ⟨f,b,hf,hb,hfb⟩:=oc_ok (K:=K) x nt
   obtain ⟨fa,fb,hfa,hfb',hrec⟩:=arg_ok nt nt' l (Nat.succ i)
   obtain ⟨p,hp,hp'⟩:=pP_ok (dep nt') i
   refine ⟨fun n a=>fa n (pset a i (f n)),fun n t u=>fb n t (Bool.rec u (p (b t) u) (Nat.beq (f n) 1)),by unfold argN;rw[hf,hfa];rfl,by unfold argT;rw[hf,hb,hp,hfb'];rfl,fun m a n t hG hE acc u tmps h0 ht=>?_⟩
   refine hrec m a n t hG hE _ _ tmps ?_ fun j y hj=>?_
   ·rw[tcap_eq hp']
    refine env_at h0 (hfb n).1 (ht 0 x rfl) fun y hy=>?_
    rw[← (hfb n).2 t]at hy
    exact evo_ok hG hE x y hy
   ·have:=ht (j+1) y (by rw[List.getElem?_cons_succ];exact hj)
    rw[show Nat.succ i+j=i+(j+1) by omega];exact this
theorem eget_zero (k:Nat) (U:T AV):eget ⟨0,U⟩ k=none:=by
 unfold eget;simp only;rw[slot_zero];rfl
theorem fcall_opR (hK:KnownOk P K) {f:FuncId}{fn:Func}{c:Code}{args:List Operand}{nt:Nat}{o:Oper}{n n':Nat}{t t':T AV}{S S':St}{e1:Env}{oo:Out}{fa:Nat→Nat→Nat}{fb:Nat→T AV→T AV→T AV}{U:T AV}
 (he:K.enter f=true) (hfn:fnc P f=some fn) (hb:fn.body=some c) (hl:len args≤fn.ntmps)
 (harg:∀ (m:Map) (a:Act) (n:Nat) (t:T AV),Gl K m→EnvOk m ⟨n,t⟩ a.tmps→∀ (acc:Nat) (u:T AV) (tmps:Array Value),EnvOk m ⟨acc,u⟩ tmps→(∀ j x,args[j]?=some x→tmps[0+j]?=some (a.eval x))→EnvOk m ⟨fa n acc,fb n t u⟩ tmps)
 (ho:∃ tys,o.op=.call ⟨.value (.func f),args.toArray,tys⟩) (hoo:oo=.norm∨oo=.ret) (hs:SoundAt P K c fn.ntmps ⟨fa n 0,fb n t U⟩ S oo ⟨n',t'⟩ S')
 (hres:∀ (m:Map) (a':Act) (w':World),R S'.lk m w'→EnvOk m ⟨n',t'⟩ a'.tmps→∃ v,(results fn a'.tmps).run P w'=.ok v w'∧∀ a:Act,EnvOk m ⟨n,t⟩ a.tmps→a.tmps.size=nt→EnvOk m e1 (a.put o.dst v).tmps∧(a.put o.dst v).tmps.size=nt) :
 OpR P K nt o ⟨n,t⟩ S e1 S':=by
 obtain ⟨l1,q1⟩:=hs
 refine ⟨l1,fun m a w hR hf hG hE hn hd next Q hq=>?_⟩
 obtain ⟨tys,ho⟩:=ho
 have hrun:(execOp a.eval o).run P w=(callFunc f (args.map a.eval).toArray).run P w:=by
  obtain ⟨dst,op,type,pos,after,guard⟩:=o
  simp only at ho;subst ho
  have e:#[] ++ args.toArray.map a.eval ++ #[]=(args.map a.eval).toArray:=by apply Array.ext';simp
  have e2:a.eval (.func f)=.func (.func f) #[] #[]:=rfl
  simp only[execOp,resolve,Deferred.ofValue,e2,Sem.run_bind,Sem.run_pure,Result.andThen_ok,invoke,e]
 unfold Oper.wp
 rw[hrun,hK.enter f he]
 refine Calls.mono (R:=fun e w'=>∃ m' v,e=.returned v∧Step K.g m S.lk S.nx w m' S'.lk S'.nx w'∧EnvOk m' e1 (a.put o.dst v).tmps∧(a.put o.dst v).tmps.size=nt) ?_ ?_
 ·refine calls_of_wp ((fnc_eq P f).symm.trans hfn) hb ?_
  refine q1 m _ w hR hf hG ?_ ?_ rfl _ ?_
  ·refine harg m a n t hG hE 0 U _ (fun k b hk=>by rw[eget_zero]at hk;cases hk) fun j x hj=>?_
   have hjl:j<args.length:=(List.getElem?_eq_some_iff.1 hj).1
   rw[Nat.zero_add,Array.getElem?_append_left (by simpa using hjl)]
   simp[hj]
  ·simp only[Array.size_append,List.size_toArray,List.length_map,Array.size_replicate]
   rw[len_eq]at hl;omega
  ·intro m' a' w' hst hE' hn' hd'
   obtain ⟨v,h2,h3⟩:=hres m' a' w' hst.rel hE'
   obtain ⟨h4,h5⟩:=h3 a (hE.ext hst.ext) hn
   rcases hoo with rfl|rfl
   ·exact ⟨hd',v,h2,m',v,rfl,hst,h4,h5⟩
   ·exact ⟨hd',v,h2,m',v,rfl,hst,h4,h5⟩
 ·rintro e w' ⟨m',v,rfl,hst,h4,h5⟩
  exact hq m' _ w' hst h4 h5 (by rw[put_defers];exact hd)
theorem fcall_ok (hK:KnownOk P K) (nt:Nat) (dst:Option Tmp) {f:FuncId}{args:List Operand}{op:Op}(hop:∃ tys,op=.call ⟨.value (.func f),args.toArray,tys⟩) {mm:H→G→G}(hm:Cop1Ok P K nt dst op mm):∃ q,fcall P K nt dst f args mm=.mk q∧Cop1Ok P K nt dst op q:=by
 unfold fcall
 split
 ·rename_i fn he hfn
  split
  ·rename_i c hb
   rw[cnd_eq]
   split
   ·rename_i hl
    rw[Nat.ble_eq]at hl
    obtain ⟨fa,fb,hfa,hfb,harg⟩:=arg_ok (K:=K) nt fn.ntmps args 0
    rw[hfa,hfb]
    show ∃ q,(match dst,fn.results.toList with
     | some d,[.tmp r]=>cnd (Nat.blt d nt) (unB (gP (dep fn.ntmps) r) fun g=>unB (pP (dep nt) d) fun p=>.mk (fcall1 c fn.ntmps d r g p fa fb)) (.mk mm)
     | _,_=>.mk (fcallG P K nt c fn dst fa fb))=Box.mk q∧Cop1Ok P K nt dst op q
    split
    ·rename_i d r hr
     rw[cnd_eq]
     split
     ·rename_i hd
      rw[blt_iff]at hd
      obtain ⟨g,hg,hg'⟩:=gP_ok (dep fn.ntmps) r
      obtain ⟨p,hp,hp'⟩:=pP_ok (dep nt) d
      rw[hg,hp]
      refine ⟨_,rfl,fun ih k n t S o1 e1 S1 hi h=>?_⟩
      obtain ⟨oo,n',t',S',h1,h2⟩:=hi _ _ _ _ _ _ _ _ _ _ h
      have h3:kret d r g p k n t n' t' S'=.out o1 e1 S1:=by rcases h1 with ⟨_,h1⟩|⟨_,h1⟩<;>exact h1
      have ho:oo=.norm∨oo=.ret:=by rcases h1 with ⟨h1,_⟩|⟨h1,_⟩;exact .inl h1;exact .inr h1
      refine ⟨pset n d (slot n' r),tcap (slot n' r) (t'.get r) t d,S',by rw[← tcap_eq hp',← hg'];exact h3,fun o ho1 ho2=>?_⟩
      refine fcall_opR hK he hfn hb hl harg (by rw[ho2];exact hop) ho h2 fun m a' w' hR' hE'=>?_
      have hrr:(results fn a'.tmps).run P w'=.ok (a'.tmps.getD r undef) w':=by
       have e:results fn a'.tmps=(do let vs ← fn.results.mapM (rvs a'.tmps);pure (if h:vs.size=1 then vs[0]else .tuple vs)):=rfl
       rw[e,Sem.run_bind,Array.mapM_eq_mapM_toList,Sem.run_map,hr]
       rfl
      refine ⟨_,hrr,fun a hE hn=>?_⟩
      rw[ho1]
      refine env_place hE hn hd (slot_lt _ _) fun y hy=>?_
      obtain ⟨v,h5,h6⟩:=hE' r y hy
      rw[Array.getD_eq_getD_getElem?,h5];exact h6
     ·exact ⟨_,rfl,hm⟩
    ·rename_i dst0 _ _ _
     refine ⟨_,rfl,fun ih k n t S o1 e1 S1 hi h=>?_⟩
     obtain ⟨oo,n',t',S',h1,h2⟩:=hi _ _ _ _ _ _ _ _ _ _ h
     have h3:rk P K fn (fun v S'=>aft (aput nt ⟨n,t⟩ dst0 v) k S') n' t' S'=.out o1 e1 S1:=by rcases h1 with ⟨_,h1⟩|⟨_,h1⟩<;>exact h1
     have ho:oo=.norm∨oo=.ret:=by rcases h1 with ⟨h1,_⟩|⟨h1,_⟩;exact .inl h1;exact .inr h1
     unfold rk at h3
     cases hv:ares P K ⟨n',t'⟩ S' fn.results.toList with
     | none=>rw[hv]at h3;cases h3
     | some v=>
       rw[hv]at h3
       obtain ⟨n2,t2,h4,h5⟩:=aft_out h3
       refine ⟨n2,t2,S',h5,fun o ho1 ho2=>?_⟩
       refine fcall_opR hK he hfn hb hl harg (by rw[ho2];exact hop) ho h2 fun m a' w' hR' hE'=>?_
       obtain ⟨u,h6,h7⟩:=ares_ok (P:=P) (fn:=fn) hR' hE' hv
       refine ⟨u,h7,fun a hE hn=>?_⟩
       rw[ho1]
       exact upd_ok (aput_upd h4) hE hn h6
   ·exact ⟨_,rfl,hm⟩
  ·exact ⟨_,rfl,hm⟩
 ·exact ⟨_,rfl,hm⟩
end
end Am
end
section
namespace Am
open Go
noncomputable section
variable {P:Program}{K:Known}
theorem add0 {a b:Nat}(h:Nat.add a b=0):a=0∧b=0:=by
 have h:a+b=0:=h
 omega
theorem sub0 {a b:Nat}(h:Nat.sub a b=0):a≤b:=by
 have h:a - b=0:=h
 omega
theorem vI_rng {c:Nat}(h:vI c=0):4≤c % 32∧c % 32≤11:=by
 obtain ⟨h1,h2⟩:=add0 h
 exact ⟨sub0 h1,sub0 h2⟩
theorem dec_int {c:Nat}(h1:4≤c % 32) (h2:c % 32≤11) (bx:Option AV):dec c bx=some (.i (kof (c % 32)) (.ofNat (c / 32))):=by
 show cnd (Nat.ble (c % 32) 15) (cnd (Nat.ble (c % 32) 3) (dlo (c % 32) (c / 32) bx) (cnd (Nat.ble (c % 32) 11) (some (.i (kof (c % 32)) (.ofNat (c / 32)))) _)) _=_
 rw[bl (by omega:c % 32≤15),bln (by omega:¬ c % 32≤3),bl h2];rfl
theorem tag8 {P:Nat→Prop}{g:Nat}(h1:4≤g) (h2:g≤11) (h:P 4∧P 5∧P 6∧P 7∧P 8∧P 9∧P 10∧P 11):P g:=by
 obtain ⟨a,b,c,d,e,f,i,j⟩:=h
 have:g=4∨g=5∨g=6∨g=7∨g=8∨g=9∨g=10∨g=11:=by omega
 rcases this with rfl|rfl|rfl|rfl|rfl|rfl|rfl|rfl<;>assumption
theorem klim_kof {g:Nat}(h1:4≤g) (h2:g≤11):klim (kof g)=2 ^ xlim g:=
 tag8 (P:=fun g=>klim (kof g)=2 ^ xlim g) h1 h2 ⟨rfl,rfl,rfl,rfl,rfl,rfl,rfl,rfl⟩
theorem bits_kof {g:Nat}(h1:4≤g) (h2:g≤11):(kof g).bits=xbits g:=
 tag8 (P:=fun g=>(kof g).bits=xbits g) h1 h2 ⟨rfl,rfl,rfl,rfl,rfl,rfl,rfl,rfl⟩
theorem xlim_le {g:Nat}(h1:4≤g) (h2:g≤11):xlim g≤64:=
 tag8 (P:=fun g=>xlim g≤64) h1 h2 (by decide)
theorem shr_lt {r e:Nat}(h:Nat.shiftRight r e=0):r<2 ^ e:=by
 have h:r >>> e=0:=h
 rw[Nat.shiftRight_eq_div_pow]at h
 rcases Nat.lt_or_ge r (2 ^ e)with h1|h1
 ·exact h1
 ·have:=Nat.div_pos h1 (Nat.two_pow_pos e)
  omega
theorem lim_lt {g r:Nat}(h1:4≤g) (h2:g≤11) (h:Nat.shiftRight r (xlim g)=0):r<klim (kof g):=by
 rw[klim_kof h1 h2];exact shr_lt h
theorem tagd_lt {g r:Nat}(hg:g<32) (h:r<2 ^ 64):tagd g r<2 ^ 192:=by
 show 32*r+g<2 ^ 192
 have:(2:Nat) ^ 64=18446744073709551616:=by decide
 have:(2:Nat) ^ 192=6277101735386680763835789423207666416102355444464034512896:=by decide
 omega
theorem dec_tagI {g r:Nat}(h1:4≤g) (h2:g≤11) (bx:Option AV):dec (tagd g r) bx=some (.i (kof g) (.ofNat r)):=by
 rw[dec_tagd (by omega)]
 show cnd (Nat.ble g 15) (cnd (Nat.ble g 3) (dlo g r bx) (cnd (Nat.ble g 11) (some (.i (kof g) (.ofNat r))) _)) _=_
 rw[bl (by omega:g≤15),bln (by omega:¬ g≤3),bl h2];rfl
theorem small_lt {k:IntKind}{r:Nat}(h:r<klim k):small k r=.ofNat r:=by
 unfold small;rw[cnd_eq,if_pos (by rw[blt_iff];exact h)]
theorem keq_self (k:IntKind):keq k k=true:=by cases k<;>rfl
theorem xor_zero {a b:Nat}(h:a ^^^ b=0):a=b:=Nat.eq_of_testBit_eq fun i=>by
 have:=congrArg (fun x=>x.testBit i) h
 simpa [Nat.testBit_xor]using this
theorem xor_mod {a b:Nat}(h:Nat.mod (Nat.xor a b) 32=0):a % 32=b % 32:=by
 have h:(a ^^^ b) % 2 ^ 5=0:=h
 rw[Nat.xor_mod_two_pow]at h
 exact xor_zero h
theorem vII_rng {a b:Nat}(h:vII a b=0):a % 32=b % 32∧4≤a % 32∧a % 32≤11:=by
 obtain ⟨h1,h2⟩:=add0 h
 exact ⟨xor_mod h1,vI_rng h2⟩
def OpdOk (K:Known) (x:Operand) (f:Nat→Nat) (g:T AV→Option AV):Prop:=∀ n,f n<2 ^ 192∧∀ t,evo K ⟨n,t⟩ x=dec (f n) (g t)
variable {nt:Nat}{dst:Option Tmp}{x y:Operand}{f f':Nat→Nat}{g g':T AV→Option AV}
theorem int_op (h:OpdOk K x f g) {n:Nat}{t:T AV}(hv:vI (f n)=0):evo K ⟨n,t⟩ x=some (.i (kof (f n % 32)) (.ofNat (f n / 32))):=by
 rw[(h n).2 t];exact dec_int (vI_rng hv).1 (vI_rng hv).2 _
theorem ik_of {op:BinOp}{ty uy:TypeId}(hx:OpdOk K x f g) (hy:OpdOk K y f' g') {n:Nat}{t:T AV}{S:St}(hv:vII (f n) (f' n)=0) {r:AV}(h:ikq op (kof (f n % 32)) (kof (f n % 32)) (.ofNat (f n / 32)) (.ofNat (f' n / 32))=some r) (ih:IH) :
 aop0 P K ih S (evo K ⟨n,t⟩) (.binOp op ty x y uy)=.ok r S:=by
 obtain ⟨h1,h2,h3⟩:=vII_rng hv
 refine aop0_pure (qbin_ok ?_)
 have e1:evo K ⟨n,t⟩ x=some (.i (kof (f n % 32)) (.ofNat (f n / 32))):=by rw[(hx n).2 t];exact dec_int h2 h3 _
 have e2:evo K ⟨n,t⟩ y=some (.i (kof (f n % 32)) (.ofNat (f' n / 32))):=by rw[(hy n).2 t,h1];exact dec_int (by omega) (by omega) _
 unfold qbin
 rw[e1,e2]
 exact h
theorem lt64 {g r:Nat}(h1:4≤g) (h2:g≤11) (h:Nat.shiftRight r (xlim g)=0):r<2 ^ 64:=Nat.lt_of_lt_of_le (shr_lt h) (Nat.pow_le_pow_right (by decide) (xlim_le h1 h2))
theorem arith_ok {op:BinOp}{ty uy:TypeId}(hx:OpdOk K x f g) (hy:OpdOk K y f' g') {n:Nat}{t:T AV}{S:St}{r:Nat}(hv:vII (f n) (f' n)=0) (hl:vlim (f n) r=0)
 (h:r<klim (kof (f n % 32))→ikq op (kof (f n % 32)) (kof (f n % 32)) (.ofNat (f n / 32)) (.ofNat (f' n / 32))=some (.i (kof (f n % 32)) (.ofNat r))) :
 tagI (f n) r<2 ^ 192∧∃ a,(∀ bx,dec (tagI (f n) r) bx=some a)∧∀ ih,aop0 P K ih S (evo K ⟨n,t⟩) (.binOp op ty x y uy)=.ok a S:=by
 obtain ⟨h1,h2,h3⟩:=vII_rng hv
 have e:tagI (f n) r=tagd (f n % 32) r:=rfl
 have hl:Nat.shiftRight r (xlim (f n % 32))=0:=hl
 rw[e]
 exact ⟨tagd_lt (by omega) (lt64 h2 h3 hl),_,fun bx=>dec_tagI h2 h3 bx,fun ih=>ik_of hx hy hv (h (lim_lt h2 h3 hl)) ih⟩
theorem cmp_ok {op:BinOp}{ty uy:TypeId}(hx:OpdOk K x f g) (hy:OpdOk K y f' g') {n:Nat}{t:T AV}{S:St}{c:Nat}{b:Bool}(hv:vII (f n) (f' n)=0) (hc:c=if b then 1 else 0)
 (h:ikq op (kof (f n % 32)) (kof (f n % 32)) (.ofNat (f n / 32)) (.ofNat (f' n / 32))=some (.b b)) :
 bitC c<2 ^ 192∧∃ a,(∀ bx,dec (bitC c) bx=some a)∧∀ ih,aop0 P K ih S (evo K ⟨n,t⟩) (.binOp op ty x y uy)=.ok a S:=by
 subst hc
 refine ⟨by cases b<;>decide,.b b,fun bx=>by cases b<;>rfl,fun ih=>ik_of hx hy hv h ih⟩
theorem eq01_eq (a b:Nat):eq01 a b=if (Nat.beq a b)=true then 1 else 0:=by
 show 1 - ((a - b)+(b - a))=_
 by_cases h:a=b
 ·rw[bq h,if_pos rfl];omega
 ·rw[bqn h];simp only[Bool.false_eq_true,if_false];omega
theorem le01_eq (a b:Nat):le01 a b=if (Nat.ble a b)=true then 1 else 0:=by
 show 1 - (a - b)=_
 by_cases h:a≤b
 ·rw[bl h,if_pos rfl];omega
 ·rw[bln h];simp only[Bool.false_eq_true,if_false];omega
theorem sub1_if (b:Bool):Nat.sub 1 (if b=true then 1 else 0)=if (qnot b)=true then 1 else 0:=by cases b<;>rfl
theorem qlt_nat (a b:Nat):qlt (.ofNat a) (.ofNat b)=Nat.ble (Nat.succ a) b:=rfl
theorem qnot_lt (a b:Nat):qnot (qlt (.ofNat b) (.ofNat a))=Nat.ble a b:=by
 rw[qlt_nat]
 by_cases h:a≤b
 ·rw[bl h,bln (show ¬ Nat.succ b≤a by omega)];rfl
 ·rw[bln h,bl (show Nat.succ b≤a by omega)];rfl
theorem lo2_eq (a b:Nat):lo2 a b=min a b:=by
 show a - (a - b)=min a b
 omega
theorem bits_ok {a b:Nat}(h1:vII a b=0) (h:Nat.shiftRight (Nat.lor (pl a) (pl b)) (xbits (Nat.mod a 32))=0):Nat.blt (pl a) (2 ^ (kof (a % 32)).bits)=true∧Nat.blt (pl b) (2 ^ (kof (a % 32)).bits)=true:=by
 obtain ⟨_,h2,h3⟩:=vII_rng h1
 have h:(pl a ||| pl b)<2 ^ xbits (a % 32):=shr_lt h
 rw[bits_kof h2 h3,blt_iff,blt_iff]
 exact ⟨Nat.lt_of_le_of_lt Nat.left_le_or h,Nat.lt_of_le_of_lt Nat.right_le_or h⟩
theorem shift_ok {op:BinOp}{ty uy:TypeId}(hx:OpdOk K x f g) (hy:OpdOk K y f' g') {n:Nat}{t:T AV}{S:St}{r:Nat}(h1:vI (f n)=0) (h2:vI (f' n)=0) (hl:vlim (f n) r=0)
 (h:r<klim (kof (f n % 32))→ikq op (kof (f n % 32)) (kof (f' n % 32)) (.ofNat (f n / 32)) (.ofNat (f' n / 32))=some (.i (kof (f n % 32)) (.ofNat r))) :
 tagI (f n) r<2 ^ 192∧∃ a,(∀ bx,dec (tagI (f n) r) bx=some a)∧∀ ih,aop0 P K ih S (evo K ⟨n,t⟩) (.binOp op ty x y uy)=.ok a S:=by
 obtain ⟨r1,r2⟩:=vI_rng h1
 have e:tagI (f n) r=tagd (f n % 32) r:=rfl
 have hl:Nat.shiftRight r (xlim (f n % 32))=0:=hl
 rw[e]
 refine ⟨tagd_lt (by omega) (lt64 r1 r2 hl),_,fun bx=>dec_tagI r1 r2 bx,fun ih=>aop0_pure (qbin_ok ?_)⟩
 unfold qbin
 rw[int_op hx h1,int_op hy h2]
 exact h (lim_lt r1 r2 hl)
theorem fBin_ok (op:BinOp) {ty uy:TypeId}(hx:OpdOk K x f g) (hy:OpdOk K y f' g'):FastOk P K nt dst (.binOp op ty x y uy) (fBin op f f'):=by
 cases op with
 | add=>
   intro n t S h
   obtain ⟨h1,h2⟩:=add0 h
   refine arith_ok hx hy h1 h2 fun hr=>?_
   show cnd (keq _ _) (some (AV.i _ (small _ (Nat.add (pl (f n)) (pl (f' n)))))) none=_
   rw[keq_self,small_lt hr];rfl
 | sub=>
   intro n t S h
   obtain ⟨h1,h2⟩:=add0 h
   obtain ⟨h1,h3⟩:=add0 h1
   refine arith_ok hx hy h1 h2 fun hr=>?_
   show cnd (keq _ _) (some (AV.i _ (cnd (Nat.ble (pl (f' n)) (pl (f n))) (small _ (Nat.sub (pl (f n)) (pl (f' n)))) _))) none=_
   rw[keq_self,small_lt hr,bl (sub0 h3)];rfl
 | mul=>
   intro n t S h
   obtain ⟨h1,h2⟩:=add0 h
   refine arith_ok hx hy h1 h2 fun hr=>?_
   show cnd (keq _ _) (some (AV.i _ (small _ (Nat.mul (pl (f n)) (pl (f' n)))))) none=_
   rw[keq_self,small_lt hr];rfl
 | quo=>
   intro n t S h
   obtain ⟨h1,h2⟩:=add0 h
   obtain ⟨h1,h3⟩:=add0 h1
   refine arith_ok hx hy h1 h2 fun hr=>?_
   show cnd (keq _ _) (cnd (Nat.beq (pl (f' n)) 0) none (some (AV.i _ (small _ (Nat.div (pl (f n)) (pl (f' n))))))) none=_
   have h3:1≤pl (f' n):=sub0 h3
   rw[keq_self,small_lt hr,bqn (by omega:pl (f' n)≠0)];rfl
 | rem=>
   intro n t S h
   obtain ⟨h1,h2⟩:=add0 h
   obtain ⟨h1,h3⟩:=add0 h1
   refine arith_ok hx hy h1 h2 fun hr=>?_
   show cnd (keq _ _) (cnd (Nat.beq (pl (f' n)) 0) none (some (AV.i _ (.ofNat (Nat.mod (pl (f n)) (pl (f' n))))))) none=_
   have h3:1≤pl (f' n):=sub0 h3
   rw[keq_self,bqn (by omega:pl (f' n)≠0)];rfl
 | and=>
   intro n t S h
   obtain ⟨h1,h2⟩:=add0 h
   obtain ⟨h1,h3⟩:=add0 h1
   have hb:=bits_ok h1 h3
   refine arith_ok hx hy h1 h2 fun hr=>?_
   show cnd (keq _ _) (bif Nat.blt (pl (f n)) (2 ^ (kof (f n % 32)).bits) && Nat.blt (pl (f' n)) (2 ^ (kof (f n % 32)).bits)then some (AV.i _ (iwrap _ (.ofNat (Nat.land (pl (f n)) (pl (f' n))))))else none) none=_
   rw[keq_self,hb.1,hb.2,← small_eq,small_lt hr];rfl
 | or=>
   intro n t S h
   obtain ⟨h1,h2⟩:=add0 h
   obtain ⟨h1,h3⟩:=add0 h1
   have hb:=bits_ok h1 h3
   refine arith_ok hx hy h1 h2 fun hr=>?_
   show cnd (keq _ _) (bif Nat.blt (pl (f n)) (2 ^ (kof (f n % 32)).bits) && Nat.blt (pl (f' n)) (2 ^ (kof (f n % 32)).bits)then some (AV.i _ (iwrap _ (.ofNat (Nat.lor (pl (f n)) (pl (f' n))))))else none) none=_
   rw[keq_self,hb.1,hb.2,← small_eq,small_lt hr];rfl
 | xor=>
   intro n t S h
   obtain ⟨h1,h2⟩:=add0 h
   obtain ⟨h1,h3⟩:=add0 h1
   have hb:=bits_ok h1 h3
   refine arith_ok hx hy h1 h2 fun hr=>?_
   show cnd (keq _ _) (bif Nat.blt (pl (f n)) (2 ^ (kof (f n % 32)).bits) && Nat.blt (pl (f' n)) (2 ^ (kof (f n % 32)).bits)then some (AV.i _ (iwrap _ (.ofNat (Nat.xor (pl (f n)) (pl (f' n))))))else none) none=_
   rw[keq_self,hb.1,hb.2,← small_eq,small_lt hr];rfl
 | shl=>
   intro n t S h
   obtain ⟨h1,h2⟩:=add0 h
   obtain ⟨h1,h3⟩:=add0 h1
   refine shift_ok hx hy h1 h3 h2 fun hr=>?_
   show some (AV.i _ (small _ (Nat.mul (pl (f n)) (Nat.pow 2 (nsh _ (pl (f' n)))))))=_
   have e:Nat.mul (pl (f n)) (Nat.pow 2 (nsh (kof (f n % 32)) (pl (f' n))))=Nat.shiftLeft (pl (f n)) (lo2 (pl (f' n)) (xbits (Nat.mod (f n) 32))):=by
    rw[nsh_eq,lo2_eq,bits_kof (vI_rng h1).1 (vI_rng h1).2]
    show (pl (f n))*2 ^ _=(pl (f n)) <<< _
    rw[Nat.shiftLeft_eq];rfl
   rw[e,small_lt hr]
 | shr=>
   intro n t S h
   obtain ⟨h1,h2⟩:=add0 h
   obtain ⟨h1,h3⟩:=add0 h1
   refine shift_ok hx hy h1 h3 h2 fun hr=>?_
   show some (AV.i _ (.ofNat (Nat.div (pl (f n)) (Nat.pow 2 (nsh _ (pl (f' n)))))))=_
   have e:Nat.div (pl (f n)) (Nat.pow 2 (nsh (kof (f n % 32)) (pl (f' n))))=Nat.shiftRight (pl (f n)) (lo2 (pl (f' n)) (xbits (Nat.mod (f n) 32))):=by
    rw[nsh_eq,lo2_eq,bits_kof (vI_rng h1).1 (vI_rng h1).2]
    show (pl (f n)) / 2 ^ _=(pl (f n)) >>> _
    rw[Nat.shiftRight_eq_div_pow];rfl
   rw[e]
 | andNot=>trivial
 | eql=>
   intro n t S h
   refine cmp_ok hx hy h (b:=qeq (.ofNat (pl (f n))) (.ofNat (pl (f' n)))) (eq01_eq _ _) ?_
   show cnd (keq _ _) _ none=_
   rw[keq_self];rfl
 | neq=>
   intro n t S h
   refine cmp_ok hx hy h (b:=qnot (qeq (.ofNat (pl (f n))) (.ofNat (pl (f' n))))) (by show Nat.sub 1 (eq01 _ _)=_;rw[eq01_eq];exact sub1_if _) ?_
   show cnd (keq _ _) _ none=_
   rw[keq_self];rfl
 | lss=>
   intro n t S h
   refine cmp_ok hx hy h (b:=qlt (.ofNat (pl (f n))) (.ofNat (pl (f' n)))) (le01_eq _ _) ?_
   show cnd (keq _ _) _ none=_
   rw[keq_self];rfl
 | leq=>
   intro n t S h
   refine cmp_ok hx hy h (b:=qnot (qlt (.ofNat (pl (f' n))) (.ofNat (pl (f n))))) (by rw[qnot_lt];exact le01_eq _ _) ?_
   show cnd (keq _ _) _ none=_
   rw[keq_self];rfl
 | gtr=>
   intro n t S h
   refine cmp_ok hx hy h (b:=qlt (.ofNat (pl (f' n))) (.ofNat (pl (f n)))) (le01_eq _ _) ?_
   show cnd (keq _ _) _ none=_
   rw[keq_self];rfl
 | geq=>
   intro n t S h
   refine cmp_ok hx hy h (b:=qnot (qlt (.ofNat (pl (f n))) (.ofNat (pl (f' n))))) (by rw[qnot_lt];exact le01_eq _ _) ?_
   show cnd (keq _ _) _ none=_
   rw[keq_self];rfl
end
end Am
end
