/- A machine for closed runs: the operations that read memory. No program in sight. -/
import Derived.Test.YtbdfhnelmojbpaaGreatDoorWab
import Derived.Deep.AppendSrc
set_option linter.unusedVariables false
set_option linter.unusedSimpArgs false
section
namespace Am
open Go
noncomputable section
variable {P:Program}
def asla (P:Program) (lk:Lk) (ρ:Rho) (t:TypeId) (a:AV) (lo hi mx:Option Operand):Option AV:=
 match und P t,a with
 | some (.array n e),.p id off=>match lk id,szo P e,obd ρ lo,obd ρ hi,mx with
   | some (.cells _ cs _ _),some s,some l,some h,none=>
     bif (Nat.ble (off+n*s) (len cs) && !(Nat.beq s 0)) && (Nat.ble (h.getD n) n && Nat.ble (l.getD 0) (h.getD n))then
      some (.sl id (off+l.getD 0*s) (h.getD n - l.getD 0) (some (n - l.getD 0)) s (l.getD 0*s))else none
   | _,_,_,_,_=>none
 | _,_=>none
theorem asla_ok {m:Map}{lk:Lk}{w:World}(hR:R lk m w) {ρ:Rho}{ev:Operand→Value}(hρ:RhoOk m ρ ev) {t:TypeId}{a r:AV}{lo hi mx:Option Operand}{v:Value}(h:asla P lk ρ t a lo hi mx=some r) (ha:cvo m a=some v) :
 ∃ z,cvo m r=some z∧(Instr.sliceAt t v (lo.map ev) (hi.map ev) (mx.map ev)).run P w=.ok z w:=by
 unfold asla at h
 split at h
 ·rename_i n e id off ht
  split at h
  ·rename_i t' cs fz ex s l h' hlk hs hl hh
   cases hb:((Nat.ble (off+n*s) (len cs) && !(Nat.beq s 0)) && (Nat.ble (h'.getD n) n && Nat.ble (l.getD 0) (h'.getD n)))with
   | false=>rw[hb]at h;cases h
   | true=>
     rw[hb,cond_true]at h
     rw[Bool.and_eq_true,Bool.and_eq_true,Bool.and_eq_true,Nat.ble_eq,Nat.ble_eq,Nat.ble_eq,Bool.not_eq_true',← Bool.not_eq_true,Nat.beq_eq,len_eq]at hb
     obtain ⟨⟨b1,b2⟩,b3,b4⟩:=hb
     obtain rfl:=Option.some.inj h
     obtain ⟨L,c,fr,vs,h1,h2,h3,h4,h5,h6,_⟩:=hR.holds _ _ hlk
     simp only[cvo,h1,Option.map_some,Option.some.injEq]at ha
     subst ha
     have hln:l.getD 0≤n:=by omega
     have hmul:(n - l.getD 0)*s+l.getD 0*s=n*s:=by rw[← Nat.add_mul];congr 1;omega
     refine ⟨.slice (some (if n=l.getD 0 then ⟨L.b,L.s+off,none⟩else (⟨L.b,L.s+off,none⟩:Addr).add (l.getD 0*s))) (h'.getD n - l.getD 0) (n - l.getD 0),?_,?_⟩
     ·simp only[cvo,h1,Option.bind_some,Option.getD_some]
      rw[if_pos ⟨by omega,by omega,by omega⟩]
      congr 3
      by_cases e0:n=l.getD 0
      ·rw[if_pos e0,if_pos (by omega)];congr 2;omega
      ·rw[if_neg e0,if_neg (by omega),addr_add];congr 2;omega
     ·have hr:=sliceBounds_ok (P:=P) false n n (obd_ok hρ hl) (obd_ok hρ hh) w b3 b4
      simp[Instr.sliceAt,run_und ht,Instr.sureAddr,hr,run_szo hs]
  ·cases h
 ·cases h
def aupt (P:Program) (lk:Lk) (s d:TypeId) (a:AV):Option AV:=
 match und P s,und P d,a with
 | some (.pointer _),some .unsafePointer,.np=>some .np
 | some .unsafePointer,some (.pointer _),.np=>some .np
 | some (.pointer t),some .unsafePointer,.p id off=>match lk id,szo P t with
   | some (.cells _ cs _ _),some n=>bif Nat.blt off (len cs) && !(Nat.beq n 0)then some (.p id off)else none
   | _,_=>none
 | some .unsafePointer,some (.pointer u),.p id off=>match lk id,szo P u with
   | some (.cells t cs _ ex),some n=>bif (ex && !(Nat.beq n 0)) && liesAt P P.depth t (len cs / P.cellsOf t) off u 1 then some (.p id off)else none
   | _,_=>none
 | _,_,_=>none
theorem aupt_ok {m:Map}{lk:Lk}{w:World}(hR:R lk m w) {s d:TypeId}{a r:AV}{v:Value}(h:aupt P lk s d a=some r) (ha:cvo m a=some v) :
 cvo m r=some v∧(convert s d v).run P w=.ok v w:=by
 have hc1:∀ {t x},und P s=some (.pointer t)→und P d=some .unsafePointer→v=.pointer x→(convert s d v).run P w=(Conv.unsafePointer s d v).run P w:=by
  intro t x hs hd hv
  subst hv
  simp only[convert,Sem.run_bind,run_und hs,run_und hd,Result.andThen_ok]
 have hc2:∀ {t x},und P s=some .unsafePointer→und P d=some (.pointer t)→v=.pointer x→(convert s d v).run P w=(Conv.unsafePointer s d v).run P w:=by
  intro t x hs hd hv
  subst hv
  simp only[convert,Sem.run_bind,run_und hs,run_und hd,Result.andThen_ok]
 unfold aupt at h
 split at h
 ·rename_i t hs hd
  obtain rfl:=Option.some.inj h
  refine ⟨ha,?_⟩
  simp only[cvo,Option.some.injEq]at ha;subst ha
  rw[hc1 hs hd rfl]
  simp[Conv.unsafePointer,run_und hs,run_und hd]
 ·rename_i t hs hd
  obtain rfl:=Option.some.inj h
  refine ⟨ha,?_⟩
  simp only[cvo,Option.some.injEq]at ha;subst ha
  rw[hc2 hs hd rfl]
  simp[Conv.unsafePointer,run_und hs,run_und hd]
 ·rename_i t id off hs hd
  split at h
  ·rename_i t' cs fz ex n hlk hn
   cases hb:(Nat.blt off (len cs) && !(Nat.beq n 0))with
   | false=>rw[hb]at h;cases h
   | true=>
     rw[hb,cond_true]at h
     rw[Bool.and_eq_true,blt_iff,Bool.not_eq_true',← Bool.not_eq_true,Nat.beq_eq,len_eq]at hb
     obtain rfl:=Option.some.inj h
     refine ⟨ha,?_⟩
     obtain ⟨L,c,fr,vs,h1,h2,h3,h4,h5,h6,_⟩:=hR.holds _ _ hlk
     simp only[cvo,h1,Option.map_some,Option.some.injEq]at ha
     subst ha
     rw[hc1 hs hd rfl]
     have hsh:w.shape? L.b=some (t',c.size):=by simp[World.shape?,h2]
     have hno:¬ (L.s+off≥c.size):=by omega
     simp[Conv.unsafePointer,run_und hs,run_und hd,Conv.seenAt,viewAt,hsh,cellsIn,run_szo hn,hb.2,hno]
  ·cases h
 ·rename_i u id off hs hd
  split at h
  ·rename_i t' cs fz ex n hlk hn
   cases hb:((ex && !(Nat.beq n 0)) && liesAt P P.depth t' (len cs / P.cellsOf t') off u 1)with
   | false=>rw[hb]at h;cases h
   | true=>
     rw[hb,cond_true]at h
     rw[Bool.and_eq_true,Bool.and_eq_true,Bool.not_eq_true',← Bool.not_eq_true,Nat.beq_eq,len_eq]at hb
     obtain ⟨⟨b1,b2⟩,b3⟩:=hb
     obtain rfl:=Option.some.inj h
     refine ⟨ha,?_⟩
     obtain ⟨L,c,fr,vs,h1,h2,h3,h4,h5,h6,h7,h8⟩:=hR.holds _ _ hlk
     obtain ⟨e1,e2⟩:=h8 b1
     simp only[cvo,h1,Option.map_some,Option.some.injEq]at ha
     subst ha
     rw[hc2 hs hd rfl]
     have hsh:w.shape? L.b=some (t',c.size):=by simp[World.shape?,h2]
     rw[← e2]at b3
     simp[Conv.unsafePointer,run_und hs,run_und hd,Conv.seenAt,viewAt,hsh,run_szo hn,b2,variablesAt,e1,b3]
  ·cases h
 ·cases h
def aload (P:Program) (lk:Lk) (ρ:Rho):Op→Option AV
 | .load t x=>match ρ x with
   | some (.p id off)=>match lk id with
     | some (.cells _ cs _ _)=>ald P t cs off
     | _=>none
   | _=>none
 | .lookup t x k ok=>match ρ x,ρ k with
   | some a,some k=>alook P t lk a k ok
   | _,_=>none
 | .slice t x lo hi mx=>match ρ x with
   | some a=>asla P lk ρ t a lo hi mx
   | none=>none
 | .convert s d x=>match ρ x with
   | some a=>aupt P lk s d a
   | none=>none
 | .call c=>match c.callee with
   | .builtin .len=>match c.argTypes.toList,amap ρ c.args.toList with
     | t :: _,some (.mp id :: _)=>match und P t,lk id with
       | some (.map _ _),some (.map es _)=>some (.i .i64 (.ofNat (len es)))
       | _,_=>none
     | t :: _,some (.nmp :: _)=>match und P t with
       | some (.map _ _)=>some (.i .i64 (.ofNat 0))
       | _=>none
     | _,_=>none
   | _=>none
 | _=>none
theorem f2_length {α β:Type}{r:α→β→Prop}:∀ {l:List α}{k:List β},F2 r l k→l.length=k.length
 | _,_,.nil=>rfl
 | _,_,.cons _ h=>by simp[f2_length h]
theorem aload_ok {m:Map}{lk:Lk}{w:World}(hR:R lk m w) {ρ:Rho}{ev:Operand→Value}(hρ:RhoOk m ρ ev) {o:Oper}{r:AV}(h:aload P lk ρ o.op=some r) :
 ∃ z,cvo m r=some z∧(execOp ev o).run P w=.ok (.value z) w:=by
 obtain ⟨dst,op,type,pos,after,guard⟩:=o
 cases op<;>simp only[aload,reduceCtorEq]at h<;>simp only[execOp]
 case load t x=>
  split at h
  ·rename_i id off hx
   split at h
   ·rename_i t' cs fz ex hlk
    obtain ⟨v,h1,h2⟩:=ald_ok hR hlk h (hρ _ _ hx)
    exact ⟨v,h1,by simp[h2]⟩
   ·cases h
  ·cases h
 case lookup t x k ok=>
  split at h
  ·rename_i a k' ha hk
   obtain ⟨v,h1,h2⟩:=alook_ok hR h (hρ _ _ ha) (hρ _ _ hk)
   exact ⟨v,h1,by simp[h2]⟩
  ·cases h
 case slice t x lo hi mx=>
  split at h
  ·rename_i a ha
   obtain ⟨v,h1,h2⟩:=asla_ok hR hρ h (hρ _ _ ha)
   exact ⟨v,h1,by simp[h2]⟩
  ·cases h
 case convert s d x=>
  split at h
  ·rename_i a ha
   obtain ⟨h1,h2⟩:=aupt_ok hR h (hρ _ _ ha)
   exact ⟨_,h1,by simp[h2]⟩
  ·cases h
 case call c=>
  obtain ⟨callee,args,argTypes⟩:=c
  obtain ⟨args⟩:=args
  obtain ⟨argTypes⟩:=argTypes
  simp only at h
  split at h
  ·simp only[resolve,Sem.run_bind,Sem.run_pure,Result.andThen_ok,invoke,builtin,List.map_toArray]
   split at h
   ·rename_i t ts id as has
    split at h
    ·rename_i kt et es ck ht hlk
     obtain rfl:=Option.some.inj h
     have hm:=amap_ok hρ has
     obtain ⟨v,vs,f1,f2,f3⟩:=cvs_cons.1 hm
     obtain ⟨L,es',h1,h2,h3⟩:=hR.holds _ _ hlk
     simp only[cvo,h1,Option.map_some,Option.some.injEq]at f1
     subst f1
     refine ⟨_,rfl,?_⟩
     rw[f3]
     have:=f2_length h3
     simp[Builtin.len_,run_und ht,MapKept.run_getObj_map h2,goInt,len_eq,this]
    ·cases h
   ·rename_i t ts as has
    split at h
    ·rename_i kt et ht
     obtain rfl:=Option.some.inj h
     have hm:=amap_ok hρ has
     obtain ⟨v,vs,f1,f2,f3⟩:=cvs_cons.1 hm
     simp only[cvo,Option.some.injEq]at f1
     subst f1
     refine ⟨_,rfl,?_⟩
     rw[f3]
     simp[Builtin.len_,run_und ht,goInt]
    ·cases h
   ·cases h
  ·cases h
end
end Am
end
section
namespace Am
open Go
noncomputable section
variable {P:Program}
structure St where
 h:T Blk
 nx:Nat
def St.lk (S:St):Lk:=S.h.get
structure Step (g:Nat) (m:Map) (lk:Lk) (nx:Nat) (w:World) (m':Map) (lk':Lk) (nx':Nat) (w':World):Prop where
 ext:Ext m m'
 dom:∀ id L,m' id=some L→m id=some L∨(nx≤id∧id<nx')
 le:nx≤nx'
 rel:R lk' m' w'
 os:w'.os=w.os
 tape:w'.tape=w.tape
 output:w'.output=w.output
 size:w.heap.size≤w'.heap.size
 fr:∀ k,k<w.heap.size→(∀ id blk L,g≤id→lk id=some blk→m id=some L→L.b≠k)→w'.heap[k]?=w.heap[k]?
 img:∀ id blk L,g≤id→lk' id=some blk→m' id=some L→w.heap.size≤L.b∨∃ id0 blk0 L0,g≤id0∧lk id0=some blk0∧m id0=some L0∧L0.b=L.b
 glob:∀ id b,id<g→lk' id=some b→lk id=some b
 keep:∀ id b,lk' id=some b→(∃ b0,lk id=some b0)∨(nx≤id∧id<nx')
def Fre (m:Map) (a b:Nat):Prop:=∀ id,a≤id→id<b→m id=none
theorem Step.refl {g:Nat}{m:Map}{lk:Lk}{nx:Nat}{w:World}(h:R lk m w):Step g m lk nx w m lk nx w:=
 ⟨fun _ _ h=>h,fun _ _ h=>.inl h,Nat.le_refl _,h,rfl,rfl,rfl,Nat.le_refl _,fun _ _ _=>rfl,fun id blk L h1 h2 h3=>.inr ⟨id,blk,L,h1,h2,h3,rfl⟩,fun _ _ _ h=>h,fun _ b h=>.inl ⟨b,h⟩⟩
theorem Step.trans {g:Nat}{m m1 m2:Map}{lk lk1 lk2:Lk}{nx nx1 nx2:Nat}{w w1 w2:World}(h:Step g m lk nx w m1 lk1 nx1 w1) (k:Step g m1 lk1 nx1 w1 m2 lk2 nx2 w2) :
 Step g m lk nx w m2 lk2 nx2 w2 where
 ext:=fun id L h1=>k.ext _ _ (h.ext _ _ h1)
 dom:=fun id L h1=>by
  rcases k.dom _ _ h1 with h2|⟨h2,h3⟩
  ·rcases h.dom _ _ h2 with h4|⟨h4,h5⟩
   ·exact .inl h4
   ·exact .inr ⟨h4,Nat.lt_of_lt_of_le h5 k.le⟩
  ·exact .inr ⟨Nat.le_trans h.le h2,h3⟩
 le:=Nat.le_trans h.le k.le
 rel:=k.rel
 os:=k.os.trans h.os
 tape:=k.tape.trans h.tape
 output:=k.output.trans h.output
 size:=Nat.le_trans h.size k.size
 fr:=fun j hj hn=>by
  rw[← h.fr j hj hn]
  refine k.fr j (Nat.lt_of_lt_of_le hj h.size) fun id blk L h1 h2 h3 e=>?_
  rcases h.img id blk L h1 h2 h3 with h4|⟨id0,blk0,L0,h4,h5,h6,h7⟩
  ·omega
  ·exact hn id0 blk0 L0 h4 h5 h6 (h7.trans e)
 img:=fun id blk L h1 h2 h3=>by
  rcases k.img id blk L h1 h2 h3 with h4|⟨id0,blk0,L0,h4,h5,h6,h7⟩
  ·exact .inl (Nat.le_trans h.size h4)
  ·rcases h.img id0 blk0 L0 h4 h5 h6 with h8|⟨id1,blk1,L1,h8,h9,h10,h11⟩
   ·exact .inl (h7▸h8)
   ·exact .inr ⟨id1,blk1,L1,h8,h9,h10,h11.trans h7⟩
 glob:=fun id b hid hb=>h.glob id b hid (k.glob id b hid hb)
 keep:=fun id b hb=>by
  rcases k.keep id b hb with ⟨b0,h1⟩|⟨h1,h2⟩
  ·rcases h.keep id b0 h1 with h3|⟨h3,h4⟩
   ·exact .inl h3
   ·exact .inr ⟨h3,Nat.lt_of_lt_of_le h4 k.le⟩
  ·exact .inr ⟨Nat.le_trans h.le h1,h2⟩
theorem Step.trans2 {g:Nat}{m m1 m2:Map}{lk lk1 lk2:Lk}{a b:Nat}{w w1 w2:World}(h:Step g m lk a w m1 lk1 b w1) (k:Step g m1 lk1 a w1 m2 lk2 b w2):Step g m lk a w m2 lk2 b w2 where
 ext:=fun id L h1=>k.ext _ _ (h.ext _ _ h1)
 dom:=fun id L h1=>by
  rcases k.dom _ _ h1 with h2|h2
  ·exact h.dom _ _ h2
  ·exact .inr h2
 le:=h.le
 rel:=k.rel
 os:=k.os.trans h.os
 tape:=k.tape.trans h.tape
 output:=k.output.trans h.output
 size:=Nat.le_trans h.size k.size
 fr:=fun j hj hn=>by
  rw[← h.fr j hj hn]
  refine k.fr j (Nat.lt_of_lt_of_le hj h.size) fun id blk L h1 h2 h3 e=>?_
  rcases h.img id blk L h1 h2 h3 with h4|⟨id0,blk0,L0,h4,h5,h6,h7⟩
  ·omega
  ·exact hn id0 blk0 L0 h4 h5 h6 (h7.trans e)
 img:=fun id blk L h1 h2 h3=>by
  rcases k.img id blk L h1 h2 h3 with h4|⟨id0,blk0,L0,h4,h5,h6,h7⟩
  ·exact .inl (Nat.le_trans h.size h4)
  ·rcases h.img id0 blk0 L0 h4 h5 h6 with h8|⟨id1,blk1,L1,h8,h9,h10,h11⟩
   ·exact .inl (h7▸h8)
   ·exact .inr ⟨id1,blk1,L1,h8,h9,h10,h11.trans h7⟩
 glob:=fun id b hid hb=>h.glob id b hid (k.glob id b hid hb)
 keep:=fun id b hb=>by
  rcases k.keep id b hb with ⟨b0,h1⟩|h1
  ·exact h.keep id b0 h1
  ·exact .inr h1
theorem Step.widen {g:Nat}{m m':Map}{lk lk':Lk}{a b c d:Nat}{w w':World}(h:Step g m lk a w m' lk' b w') (h1:c≤a) (h2:b≤d):Step g m lk c w m' lk' d w':=
 ⟨h.ext,fun id L hL=>(h.dom id L hL).imp (fun h=>h) (fun ⟨x,y⟩=>⟨Nat.le_trans h1 x,Nat.lt_of_lt_of_le y h2⟩),Nat.le_trans h1 (Nat.le_trans h.le h2),h.rel,h.os,h.tape,h.output,h.size,h.fr,h.img,h.glob,
  fun id b hb=>(h.keep id b hb).imp (fun h=>h) (fun ⟨x,y⟩=>⟨Nat.le_trans h1 x,Nat.lt_of_lt_of_le y h2⟩)⟩
theorem Fre.step {g:Nat}{m m':Map}{lk lk':Lk}{nx nx' b:Nat}{w w':World}(h:Step g m lk nx w m' lk' nx' w') (hf:Fre m nx b):Fre m' nx' b:=fun id h1 h2=>by
 cases hm:m' id with
 | none=>rfl
 | some L=>
   rcases h.dom _ _ hm with h3|⟨h3,h4⟩
   ·rw[hf id (Nat.le_trans h.le h1) h2]at h3;cases h3
   ·omega
theorem Fre.le {m:Map}{a b c:Nat}(h:Fre m a c) (hb:b≤c):Fre m a b:=fun id h1 h2=>h id h1 (Nat.lt_of_lt_of_le h2 hb)
theorem R.heap {lk:Lk}{m:Map}{w w':World}(h:R lk m w) (e:w'.heap=w.heap):R lk m w':=
 ⟨fun id b hb=>(h.holds id b hb).mono (fun _ _ h=>h) (fun L _=>by rw[e]),h.inj⟩
theorem Step.drew {g:Nat}{m:Map}{lk:Lk}{nx:Nat}{w w':World}(h:R lk m w) (e:w'.heap=w.heap) (e1:w'.os=w.os) (e2:w'.tape=w.tape) (e3:w'.output=w.output):Step g m lk nx w m lk nx w':=
 ⟨fun _ _ h=>h,fun _ _ h=>.inl h,Nat.le_refl _,h.heap e,e1,e2,e3,by rw[e];exact Nat.le_refl _,fun _ _ _=>by rw[e],fun id blk L h1 h2 h3=>.inr ⟨id,blk,L,h1,h2,h3,rfl⟩,fun _ _ _ h=>h,fun _ b h=>.inl ⟨b,h⟩⟩
theorem Step.weaken {g:Nat}{m m':Map}{lk lk' lk2:Lk}{nx nx':Nat}{w w':World}(h:Step g m lk nx w m' lk' nx' w') (hs:∀ id x,lk2 id=some x→∃ y,lk' id=some y∧(Holds m' w' id y→Holds m' w' id x)) (hg:∀ id x,id<g→lk2 id=some x→lk' id=some x):Step g m lk nx w m' lk2 nx' w':=by
 refine ⟨h.ext,h.dom,h.le,⟨fun id x hx=>?_,fun id id' x x' L L' h1 h2 h3 h4 h5=>?_⟩,h.os,h.tape,h.output,h.size,h.fr,fun id x L h1 h2 h3=>?_,fun id x hid hx=>h.glob id x hid (hg id x hid hx),fun id x hx=>?_⟩
 ·obtain ⟨y,hy,hh⟩:=hs id x hx
  exact hh (h.rel.holds id y hy)
 ·obtain ⟨y,hy,_⟩:=hs id x h1
  obtain ⟨y',hy',_⟩:=hs id' x' h2
  exact h.rel.inj id id' y y' L L' hy hy' h3 h4 h5
 ·obtain ⟨y,hy,_⟩:=hs id x h2
  exact h.img id y L h1 hy h3
 ·obtain ⟨y,hy,_⟩:=hs id x hx
  exact h.keep id y hy
def mset (m:Map) (id:Nat) (L:Loc):Map:=fun j=>if j=id then some L else m j
theorem mset_self (m:Map) (id:Nat) (L:Loc):mset m id L id=some L:=by simp[mset]
theorem mset_ext {m:Map}{id:Nat}{L:Loc}(h:m id=none):Ext m (mset m id L):=fun j K hj=>by
 unfold mset
 split
 ·rename_i e;subst e;rw[h]at hj;cases hj
 ·exact hj
theorem mset_ne {m:Map}{id j:Nat}{L:Loc}(h:j≠id):mset m id L j=m j:=by simp[mset,h]
theorem Step.new {g:Nat}{m:Map}{lk lk':Lk}{nx:Nat}{w w':World}{e:Nat}{o:Obj}{blk:Blk}(hR:R lk m w) (hg:g≤nx) (hm:m nx=none)
 (hh:w'.heap=w.heap.push o) (e1:w'.os=w.os) (e2:w'.tape=w.tape) (e3:w'.output=w.output)
 (hlk:∀ id b,lk' id=some b→(id=nx∧b=blk)∨(id≠nx∧lk id=some b)) (hlg:∀ id,id≠nx→lk' id=lk id)
 (hb:Holds (mset m nx ⟨w.heap.size,0,e⟩) w' nx blk) :
 Step g m lk nx w (mset m nx ⟨w.heap.size,0,e⟩) lk' (nx+1) w':=by
 have hext:Ext m (mset m nx ⟨w.heap.size,0,e⟩):=mset_ext hm
 have hold:∀ k,k<w.heap.size→w'.heap[k]?=w.heap[k]?:=fun k hk=>by
  rw[hh,Array.getElem?_push,if_neg (by omega)]
 refine ⟨hext,?_,by omega,⟨?_,?_⟩,e1,e2,e3,by rw[hh];simp,fun k hk _=>hold k hk,?_,fun id b hid hb=>by rw[← hlg id (by omega)];exact hb,fun id b hb=>by
  rcases hlk id b hb with ⟨rfl,_⟩|⟨_,h⟩
  ·exact .inr ⟨Nat.le_refl _,Nat.lt_succ_self _⟩
  ·exact .inl ⟨b,h⟩⟩
 ·intro id L hL
  by_cases h:id=nx
  ·exact .inr (by omega)
  ·rw[mset_ne h]at hL;exact .inl hL
 ·intro id b hb'
  rcases hlk id b hb' with ⟨rfl,rfl⟩|⟨hne,hb''⟩
  ·exact hb
  ·have H:=hR.holds id b hb''
   obtain ⟨L,hL,hlt⟩:=H.loc
   exact H.mono hext (fun K hK=>by obtain rfl:=Option.some.inj (hL.symm.trans hK);exact hold _ hlt)
 ·intro id id' b b' L L' h1 h2 h3 h4 h5
  rcases hlk id b h1 with ⟨rfl,rfl⟩|⟨hne,hb1⟩<;>rcases hlk id' b' h2 with ⟨rfl,rfl⟩|⟨hne',hb2⟩
  ·rfl
  ·rw[mset_self]at h3;obtain rfl:=Option.some.inj h3
   rw[mset_ne hne']at h4
   obtain ⟨K,hK,hlt⟩:=(hR.holds _ _ hb2).loc
   obtain rfl:=Option.some.inj (hK.symm.trans h4)
   simp only at h5;omega
  ·rw[mset_self]at h4;obtain rfl:=Option.some.inj h4
   rw[mset_ne hne]at h3
   obtain ⟨K,hK,hlt⟩:=(hR.holds _ _ hb1).loc
   obtain rfl:=Option.some.inj (hK.symm.trans h3)
   simp only at h5;omega
  ·rw[mset_ne hne]at h3;rw[mset_ne hne']at h4
   exact hR.inj id id' b b' L L' hb1 hb2 h3 h4 h5
 ·intro id b L h1 h2 h3
  rcases hlk id b h2 with ⟨rfl,rfl⟩|⟨hne,hb1⟩
  ·rw[mset_self]at h3;obtain rfl:=Option.some.inj h3
   exact .inl (Nat.le_refl _)
  ·rw[mset_ne hne]at h3;exact .inr ⟨id,b,L,h1,hb1,h3,rfl⟩
theorem Step.put {g:Nat}{m:Map}{lk lk':Lk}{nx id:Nat}{w w':World}{blk0 blk:Blk}{L:Loc}(hR:R lk m w) (hg:g≤id) (h0:lk id=some blk0) (hL:m id=some L)
 (hw:∀ k,k≠L.b→w'.heap[k]?=w.heap[k]?) (hs:w'.heap.size=w.heap.size) (e1:w'.os=w.os) (e2:w'.tape=w.tape) (e3:w'.output=w.output)
 (hlk:∀ j b,lk' j=some b→(j=id∧b=blk)∨(j≠id∧lk j=some b)) (hlg:∀ j,j≠id→lk' j=lk j)
 (hb:Holds m w' id blk):Step g m lk nx w m lk' nx w':=by
 refine ⟨fun _ _ h=>h,fun _ _ h=>.inl h,Nat.le_refl _,⟨?_,?_⟩,e1,e2,e3,by omega,?_,?_,fun j b hj hb=>by rw[← hlg j (by omega)];exact hb,fun j b hj=>by
  rcases hlk j b hj with ⟨rfl,_⟩|⟨_,h⟩
  ·exact .inl ⟨_,h0⟩
  ·exact .inl ⟨b,h⟩⟩
 ·intro j b hj
  rcases hlk j b hj with ⟨rfl,rfl⟩|⟨hne,hj'⟩
  ·exact hb
  ·exact (hR.holds j b hj').mono (fun _ _ h=>h) (fun K hK=>hw _ fun e=>hne (hR.inj j id b blk0 K L hj' h0 hK hL e))
 ·intro j j' b b' K K' h1 h2 h3 h4 h5
  have hl:∀ j b,lk' j=some b→∃ b0,lk j=some b0:=fun j b h=>by
   rcases hlk j b h with ⟨rfl,_⟩|⟨_,h⟩
   ·exact ⟨_,h0⟩
   ·exact ⟨_,h⟩
  obtain ⟨c,hc⟩:=hl j b h1
  obtain ⟨c',hc'⟩:=hl j' b' h2
  exact hR.inj j j' c c' K K' hc hc' h3 h4 h5
 ·intro k hk hn
  exact hw k fun e=>hn id blk0 L hg h0 hL e.symm
 ·intro j b K h1 h2 h3
  rcases hlk j b h2 with ⟨rfl,rfl⟩|⟨_,h⟩
  ·exact .inr ⟨j,blk0,K,h1,h0,h3,rfl⟩
  ·exact .inr ⟨j,b,K,h1,h,h3,rfl⟩
theorem Step.move {g:Nat}{m:Map}{lk lk':Lk}{nx id:Nat}{w w':World}{blk0 blk:Blk}{L L':Loc}(hR:R lk m w) (hg:g≤id) (hgn:g≤nx) (h0:lk id=some blk0) (hL:m id=some L) (hm:m nx=none) (hLb:L'.b=L.b)
 (hw:∀ k,k≠L.b→w'.heap[k]?=w.heap[k]?) (hs:w'.heap.size=w.heap.size) (e1:w'.os=w.os) (e2:w'.tape=w.tape) (e3:w'.output=w.output)
 (hlk:∀ j b,lk' j=some b→(j=nx∧b=blk)∨(j≠nx∧j≠id∧lk j=some b)) (hlg:∀ j,j≠id→j≠nx→lk' j=lk j)
 (hb:Holds (mset m nx L') w' nx blk):Step g m lk nx w (mset m nx L') lk' (nx+1) w':=by
 have hext:Ext m (mset m nx L'):=mset_ext hm
 refine ⟨hext,?_,by omega,⟨?_,?_⟩,e1,e2,e3,by omega,?_,?_,fun j b hj hb=>by rw[← hlg j (by omega) (by omega)];exact hb,fun j b hj=>by
  rcases hlk j b hj with ⟨rfl,_⟩|⟨_,_,h⟩
  ·exact .inr ⟨Nat.le_refl _,Nat.lt_succ_self _⟩
  ·exact .inl ⟨b,h⟩⟩
 ·intro j K hK
  by_cases h:j=nx
  ·exact .inr (by omega)
  ·rw[mset_ne h]at hK;exact .inl hK
 ·intro j b hj
  rcases hlk j b hj with ⟨rfl,rfl⟩|⟨hne,hne2,hj'⟩
  ·exact hb
  ·exact (hR.holds j b hj').mono hext (fun K hK=>hw _ fun e=>hne2 (hR.inj j id b blk0 K L hj' h0 hK hL e))
 ·intro j j' b b' K K' h1 h2 h3 h4 h5
  rcases hlk j b h1 with ⟨rfl,rfl⟩|⟨hne,hn2,hb1⟩<;>rcases hlk j' b' h2 with ⟨rfl,rfl⟩|⟨hne',hn2',hb2⟩
  ·rfl
  ·rw[mset_self]at h3;obtain rfl:=Option.some.inj h3
   rw[mset_ne hne']at h4
   exact absurd (hR.inj j' id b' blk0 K' L hb2 h0 h4 hL (h5.symm.trans hLb)) hn2'
  ·rw[mset_self]at h4;obtain rfl:=Option.some.inj h4
   rw[mset_ne hne]at h3
   exact absurd (hR.inj j id b blk0 K L hb1 h0 h3 hL (h5.trans hLb)) hn2
  ·rw[mset_ne hne]at h3;rw[mset_ne hne']at h4
   exact hR.inj j j' b b' K K' hb1 hb2 h3 h4 h5
 ·intro k hk hn
  exact hw k fun e=>hn id blk0 L hg h0 hL e.symm
 ·intro j b K h1 h2 h3
  rcases hlk j b h2 with ⟨rfl,rfl⟩|⟨hne,_,h⟩
  ·rw[mset_self]at h3;obtain rfl:=Option.some.inj h3
   exact .inr ⟨id,blk0,L,hg,h0,hL,hLb.symm⟩
  ·rw[mset_ne hne]at h3;exact .inr ⟨j,b,K,h1,h,h3,rfl⟩
def jn (a b:Lk):Lk:=fun id=>match a id with
 | some x=>some x
 | none=>b id
theorem jn_some {a b:Lk}{id:Nat}{x:Blk}(h:jn a b id=some x):a id=some x∨(a id=none∧b id=some x):=by
 unfold jn at h
 split at h
 ·rename_i y hy;exact .inl (hy.trans h)
 ·rename_i hn;exact .inr ⟨hn,h⟩
theorem R.sub {a b:Lk}{m:Map}{w:World}(h:R a m w) (hs:∀ id x,b id=some x→a id=some x):R b m w:=
 ⟨fun id x hx=>h.holds id x (hs id x hx),fun id id' x x' L L' h1 h2 h3 h4 h5=>h.inj id id' x x' L L' (hs _ _ h1) (hs _ _ h2) h3 h4 h5⟩
theorem Step.beside {g:Nat}{m m':Map}{lk lk' e:Lk}{nx nx':Nat}{w w':World}(h:Step g m lk nx w m' lk' nx' w') (hR:R (jn lk e) m w)
 (he:∀ id x,e id=some x→g≤id∧lk id=none):Step g m (jn lk e) nx w m' (jn lk' e) nx' w':=by
 have old:∀ id x,lk' id=none→e id=some x→Holds m w id x:=fun id x hn hx=>
  hR.holds id x (by unfold jn;rw[(he id x hx).2];exact hx)
 have stay:∀ id x L,e id=some x→m id=some L→w'.heap[L.b]?=w.heap[L.b]?:=by
  intro id x L hx hL
  obtain ⟨K,hK,hlt⟩:=(hR.holds id x (by unfold jn;rw[(he id x hx).2];exact hx)).loc
  obtain rfl:=Option.some.inj (hK.symm.trans hL)
  refine h.fr _ hlt fun j b J h1 h2 h3 e'=>?_
  have:j=id:=hR.inj j id b x J K (by unfold jn;rw[h2]) (by unfold jn;rw[(he id x hx).2];exact hx) h3 hK e'
  subst this
  rw[(he _ x hx).2]at h2;cases h2
 refine ⟨h.ext,h.dom,h.le,⟨?_,?_⟩,h.os,h.tape,h.output,h.size,fun k hk hn=>h.fr k hk fun id b L h1 h2 h3=>hn id b L h1 (by unfold jn;rw[h2]) h3,?_,?_,?_⟩
 rotate_left 2
 ·intro id b L h1 h2 h3
  rcases jn_some h2 with h2|⟨n1,h2⟩
  ·rcases h.img id b L h1 h2 h3 with h4|⟨id0,b0,L0,h4,h5,h6,h7⟩
   ·exact .inl h4
   ·exact .inr ⟨id0,b0,L0,h4,by unfold jn;rw[h5],h6,h7⟩
  ·obtain ⟨K,hK,_⟩:=(old id b n1 h2).loc
   obtain rfl:=Option.some.inj ((h.ext _ _ hK).symm.trans h3)
   exact .inr ⟨id,b,K,h1,by unfold jn;rw[(he id b h2).2];exact h2,hK,rfl⟩
 ·intro id b hid hb
  rcases jn_some hb with hb|⟨n1,hb⟩
  ·unfold jn;rw[h.glob id b hid hb]
  ·exact absurd (he id b hb).1 (by omega)
 ·intro id b hb
  rcases jn_some hb with hb|⟨n1,hb⟩
  ·rcases h.keep id b hb with ⟨b0,h1⟩|h1
   ·exact .inl ⟨b0,by unfold jn;rw[h1]⟩
   ·exact .inr h1
  ·exact .inl ⟨b,by unfold jn;rw[(he id b hb).2];exact hb⟩
 ·intro id x hx
  rcases jn_some hx with hx|⟨hn,hx⟩
  ·exact h.rel.holds id x hx
  ·exact (old id x hn hx).mono h.ext (fun L hL=>stay id x L hx hL)
 ·have key:∀ id id' x x' L L',lk' id=some x→e id'=some x'→m' id=some L→m' id'=some L'→L.b=L'.b→id=id':=by
   intro id id' x x' L L' h1 h2 h3 h4 h5
   have hn:=(he id' x' h2).2
   obtain ⟨K,hK,hlt⟩:=(hR.holds id' x' (by unfold jn;rw[hn];exact h2)).loc
   obtain rfl:=Option.some.inj ((h.ext _ _ hK).symm.trans h4)
   by_cases hg:g≤id
   ·rcases h.img id x L hg h1 h3 with h6|⟨id0,b0,L0,h6,h7,h8,h9⟩
    ·omega
    ·have:id0=id':=hR.inj id0 id' b0 x' L0 K (by unfold jn;rw[h7]) (by unfold jn;rw[hn];exact h2) h8 hK (h9.trans h5)
     subst this;rw[hn]at h7;cases h7
   ·have h1:=h.glob id x (by omega) h1
    obtain ⟨J,hJ,_⟩:=(hR.holds id x (by unfold jn;rw[h1])).loc
    obtain rfl:=Option.some.inj ((h.ext _ _ hJ).symm.trans h3)
    exact hR.inj id id' x x' J K (by unfold jn;rw[h1]) (by unfold jn;rw[hn];exact h2) hJ hK h5
  intro id id' x x' L L' h1 h2 h3 h4 h5
  rcases jn_some h1 with h1|⟨n1,h1⟩<;>rcases jn_some h2 with h2|⟨n2,h2⟩
  ·exact h.rel.inj id id' x x' L L' h1 h2 h3 h4 h5
  ·exact key id id' x x' L L' h1 h2 h3 h4 h5
  ·exact (key id' id x' x L' L h2 h1 h4 h3 h5.symm).symm
  ·obtain ⟨K,hK,_⟩:=(old id x n1 h1).loc
   obtain ⟨K',hK',_⟩:=(old id' x' n2 h2).loc
   obtain rfl:=Option.some.inj ((h.ext _ _ hK).symm.trans h3)
   obtain rfl:=Option.some.inj ((h.ext _ _ hK').symm.trans h4)
   exact hR.inj id id' x x' K K' (by unfold jn;rw[(he id x h1).2];exact h1) (by unfold jn;rw[(he id' x' h2).2];exact h2) hK hK' h5
end
end Am
end
section
namespace Am
open Go
noncomputable section
variable {P:Program}
def atile (z:List AV) (n:Nat):List AV:=Nat.rec [] (fun _ ih=>z ++ ih) n
def vtile (z:List Value):Nat→List Value
 | 0=>[]
 | n+1=>z ++ vtile z n
theorem atile_ok {m:Map}{z:List AV}{vs:List Value}(h:cvs m z=some vs):∀ n,cvs m (atile z n)=some (vtile vs n)
 | 0=>rfl
 | n+1=>cvs_append h (atile_ok h n)
theorem vtile_length (z:List Value):∀ n,(vtile z n).length=n*z.length
 | 0=>by simp[vtile]
 | n+1=>by simp only[vtile,List.length_append,vtile_length z n,Nat.succ_mul];omega
theorem range_tile (z:Array Value) (h:0<z.size):∀ n,((List.range (n*z.size)).map (fun i=>z[i % z.size]!))=vtile z.toList n
 | 0=>by simp[vtile]
 | n+1=>by
   rw[Nat.succ_mul,Nat.add_comm,List.range_add,List.map_append,List.map_map,vtile]
   congr 1
   ·apply List.ext_getElem
    ·simp
    ·intro i h1 h2
     simp only[List.length_map,List.length_range]at h1
     simp[Nat.mod_eq_of_lt h1,h1]
   ·rw[← range_tile z h n]
    apply List.map_congr_left
    intro i _
    simp[Nat.add_mod_left]
theorem tile_eq (z:Array Value) (n s:Nat) (h:z.size=s) (h0:0<s):(Array.range (n*s)).map (fun i=>z[i % z.size]!)=(vtile z.toList n).toArray:=by
 subst h
 apply Array.ext'
 rw[Array.toList_map,Array.toList_range,range_tile z h0]
def aalloc (P:Program) (ρ:Rho):Op→Option (Blk × (Nat→AV))
 | .alloc e=>match zero P e with
   | some z=>some (.cells e (cel z) 0 true,fun id=>.p id 0)
   | none=>none
 | .box e x=>match ρ x with
   | some a=>some (.cells e (cel a) 0 true,fun id=>.p id 0)
   | none=>none
 | .buildSlice t n ps=>match und P t with
   | some (.slice e)=>match szo P e,zero P e,aprt ρ ps.toList with
     | some s,some z,some l=>bif (Nat.ble (n*s) 16777216 && !(Nat.beq s 0)) && Nat.beq (len (cel z)) s then
      match afill (fun i=>some (i*s,s)) l (atile (cel z) n)with
      | some cs=>some (.cells e cs 0 true,fun id=>.sl id 0 n (some n) s 0)
      | none=>none
      else none
     | _,_,_=>none
   | _=>none
 | .makeSlice t l c=>match und P t with
   | some (.slice e)=>match inf P e,zero P e,bd ρ l,bd ρ c with
     | some i,some z,some l,some c=>bif ((Nat.ble l c && Nat.ble c 4294967296) && (Nat.ble (i.bytes*c) 281474976710656 && !(Nat.beq i.size 0))) && Nat.beq (len (cel z)) i.size then
      some (.cells e (atile (cel z) c) 0 true,fun id=>.sl id 0 l (some c) i.size 0)
      else none
     | _,_,_,_=>none
   | _=>none
 | .makeMap t r=>match und P t,r with
   | some (.map _ _),none=>some (.map [] 0,fun id=>.mp id)
   | some (.map _ _),some x=>match bd ρ x with
     | some _=>some (.map [] 0,fun id=>.mp id)
     | none=>none
   | _,_=>none
 | _=>none
def NewIs (P:Program) (m:Map) (w:World) (run:World→Result Next) (blk:Blk) (f:Nat→AV):Prop:=
 ∃ o e,∀ (m':Map) (nx:Nat) (w w':World),Ext m m'→m' nx=some ⟨w.heap.size,0,e⟩→w'.heap=w.heap.push o→Holds m' w' nx blk∧∃ u,cvo m' (f nx)=some u∧run w=.ok (.value u) (w.alloc o)
theorem holds_new {m m':Map}{cs:List AV}{vs:List Value}{t:TypeId}{nx:Nat}{w w':World}(h:cvs m cs=some vs) (he:Ext m m') (hm:m' nx=some ⟨w.heap.size,0,vs.length⟩) (hw:w'.heap=w.heap.push (.cells vs.toArray t)) :
 Holds m' w' nx (.cells t cs 0 true):=by
 refine ⟨_,vs.toArray,(0,0),vs,hm,by rw[hw];simp,by simp,by rw[cvs_length h];exact Nat.le_refl _,cvs_mono he _ h,fun i v hv=>by simpa using hv,fun i _ _ hh=>by simp at hh,fun _=>⟨rfl,by simp[cvs_length h]⟩⟩
theorem wrap_small (n:Nat) (h:n≤4294967296):IntKind.i64.wrap (n:Int)=(n:Int):=by
 have:=iwrap_eq .i64 (n:Int)
 rw[← this]
 show iwrap .i64 (Int.ofNat n)=_
 simp only[iwrap,klim]
 have:Nat.blt n 9223372036854775808=true:=by rw[blt_iff];omega
 rw[this];rfl
theorem aalloc_ok {m:Map}{ρ:Rho}{ev:Operand→Value}(hρ:RhoOk m ρ ev) {o:Oper}{blk:Blk}{f:Nat→AV}(h:aalloc P ρ o.op=some (blk,f)) :
 NewIs P m default (fun w=>(execOp ev o).run P w) blk f:=by
 obtain ⟨dst,op,type,pos,after,guard⟩:=o
 cases op<;>simp only[aalloc,reduceCtorEq]at h<;>simp only[execOp]
 case alloc e=>
  split at h
  ·rename_i z hz
   obtain ⟨rfl,rfl⟩:=Prod.mk.inj (Option.some.inj h)
   obtain ⟨v,hv,hrun⟩:=zero_ok hz m
   refine ⟨.cells v.cells.toList.toArray e,v.cells.toList.length,fun m' nx w w' he hm hw=>⟨holds_new (cel_ok hv) he hm hw,.pointer (some ⟨w.heap.size,0,none⟩),by simp[cvo,hm],?_⟩⟩
   simp[Instr.alloc,hrun,newVar,newRow]
  ·cases h
 case box e x=>
  split at h
  ·rename_i a ha
   obtain ⟨rfl,rfl⟩:=Prod.mk.inj (Option.some.inj h)
   refine ⟨.cells (ev x).cells.toList.toArray e,(ev x).cells.toList.length,fun m' nx w w' he hm hw=>⟨holds_new (cel_ok (hρ _ _ ha)) he hm hw,.pointer (some ⟨w.heap.size,0,none⟩),by simp[cvo,hm],?_⟩⟩
   simp[Instr.box,newVar,newRow]
  ·cases h
 case buildSlice t n ps=>
  split at h
  ·rename_i e ht
   split at h
   ·rename_i s z l hs hz hl
    cases hb:((Nat.ble (n*s) 16777216 && !(Nat.beq s 0)) && Nat.beq (len (cel z)) s)with
    | false=>rw[hb]at h;cases h
    | true=>
      rw[hb,cond_true]at h
      rw[Bool.and_eq_true,Bool.and_eq_true,Nat.ble_eq,Bool.not_eq_true',← Bool.not_eq_true,Nat.beq_eq,Nat.beq_eq,len_eq]at hb
      obtain ⟨⟨b1,b2⟩,b3⟩:=hb
      split at h
      ·rename_i cs hcs
       obtain ⟨rfl,rfl⟩:=Prod.mk.inj (Option.some.inj h)
       obtain ⟨v,hv,hrun⟩:=zero_ok hz m
       have hcel:=cel_ok hv
       have hp:PartsOk m l ((ps.map fun x=>(x.1,ev x.2)).toList):=by have:=aprt_ok hρ hl;simpa using this
       obtain ⟨us,g1,g2,g3⟩:=afill_ok hp (atile_ok hcel n) hcs
       have hzs:v.cells.size=s:=by rw[← Array.length_toList,cvs_length hcel,b3]
       have hul:us.length=n*s:=by rw[g3,vtile_length,Array.length_toList,hzs]
       refine ⟨.cells us.toArray e,us.length,fun m' nx w w' he hm hw=>⟨holds_new g2 he hm hw,.slice (some ⟨w.heap.size,0,none⟩) n n,?_,?_⟩⟩
       ·simp only[cvo,hm,Option.bind_some,Option.getD_some]
        rw[if_pos ⟨Nat.le_refl _,by omega,by rw[hul];omega⟩]
        by_cases hn:n=0<;>simp[hn]
       ·have hfill:Instr.fill (fun i=>some (i*s,s)) (vtile v.cells.toList n).toArray (ps.map fun x=>(x.1,ev x.2)).toList=some us.toArray:=g1
        unfold Instr.buildSlice
        simp only[Sem.run_bind,run_und ht,Result.andThen_ok,run_szo hs]
        rw[if_neg (by omega)]
        simp only[Sem.run_pure,Result.andThen_ok,Sem.run_bind]
        by_cases hn:n*s=0
        ·have hn0:n=0:=by rcases Nat.mul_eq_zero.1 hn with h|h;exact h;exact absurd h b2
         subst hn0
         rw[if_pos hn]
         simp only[Sem.run_bind,Sem.run_pure,Result.andThen_ok,hn]
         have e0:(Array.range 0).map (fun i=>(#[]:Array Value)[i % (#[]:Array Value).size]!)=(vtile v.cells.toList 0).toArray:=by simp[vtile]
         rw[e0,hfill]
         simp[newRow]
        ·rw[if_neg hn]
         simp only[Sem.run_bind,hrun,Result.andThen_ok,Sem.run_pure]
         rw[tile_eq v.cells n s hzs (by omega),hfill]
         simp[newRow]
      ·cases h
   ·cases h
  ·cases h
 case makeSlice t l c=>
  split at h
  ·rename_i e ht
   split at h
   ·rename_i i z l' c' hi hz hl hc
    cases hb:(((Nat.ble l' c' && Nat.ble c' 4294967296) && (Nat.ble (i.bytes*c') 281474976710656 && !(Nat.beq i.size 0))) && Nat.beq (len (cel z)) i.size)with
    | false=>rw[hb]at h;cases h
    | true=>
      rw[hb,cond_true]at h
      rw[Bool.and_eq_true,Bool.and_eq_true,Bool.and_eq_true,Bool.and_eq_true,Nat.ble_eq,Nat.ble_eq,Nat.ble_eq,Bool.not_eq_true',← Bool.not_eq_true,Nat.beq_eq,Nat.beq_eq,len_eq]at hb
      obtain ⟨⟨⟨b1,b2⟩,b3,b4⟩,b5⟩:=hb
      obtain ⟨rfl,rfl⟩:=Prod.mk.inj (Option.some.inj h)
      obtain ⟨v,hv,hrun⟩:=zero_ok hz m
      obtain ⟨k1,hk1⟩:=bd_ok hρ hl
      obtain ⟨k2,hk2⟩:=bd_ok hρ hc
      have hcel:=cel_ok hv
      have hzs:v.cells.size=i.size:=by rw[← Array.length_toList,cvs_length hcel,b5]
      have hul:(vtile v.cells.toList c').length=c'*i.size:=by rw[vtile_length,Array.length_toList,hzs]
      refine ⟨.cells (vtile v.cells.toList c').toArray e,(vtile v.cells.toList c').length,fun m' nx w w' he hm hw=>⟨holds_new (atile_ok hcel c') he hm hw,.slice (some ⟨w.heap.size,0,none⟩) l' c',?_,?_⟩⟩
      ·simp only[cvo,hm,Option.bind_some,Option.getD_some]
       rw[if_pos ⟨b1,by omega,by rw[hul];omega⟩]
       by_cases hn:c'=0<;>simp[hn]
      ·have q1:decide ((c':Int)<0)=false:=decide_eq_false (by omega)
       have q2:decide ((i.bytes:Int)*(c':Int) > 2 ^ 48)=false:=decide_eq_false (by
        have:((i.bytes*c':Nat):Int)≤281474976710656:=Int.ofNat_le.2 b3
        rw[Int.natCast_mul]at this
        exact Int.not_lt.2 this)
       have q3:decide ((l':Int)<0)=false:=decide_eq_false (by omega)
       have q4:decide ((l':Int) > (c':Int))=false:=decide_eq_false (by omega)
       unfold Instr.makeSlice
       simp only[Sem.run_bind,run_und ht,Result.andThen_ok,hk1,hk2,asInt,asIntOf,Sem.run_pure,typeInfo,run_program,inf_ok hi,wrap_small c' b2,wrap_small l' (Nat.le_trans b1 b2)]
       rw[if_neg (by rw[q1,q2,q3,q4];simp)]
       simp only[Sem.run_bind,Sem.run_pure,Result.andThen_ok,run_askRoom,Int.toNat_natCast]
       have hsz:(Go.sizeOf e).run P w=.ok i.size w:=run_szo (by simp[szo,hi]) w
       simp only[hsz,Result.andThen_ok]
       by_cases hn:c'*i.size=0
       ·have hn0:c'=0:=by rcases Nat.mul_eq_zero.1 hn with h|h;exact h;exact absurd h b4
        subst hn0
        rw[if_pos hn]
        simp[newRow,vtile]
        exact congrArg (fun x=>w.alloc (.cells x e)) (by apply Array.ext';simp)
       ·rw[if_neg hn]
        simp only[Sem.run_bind,hrun,Result.andThen_ok,Sem.run_pure]
        rw[tile_eq v.cells c' i.size hzs (by omega)]
        simp[newRow]
   ·cases h
  ·cases h
 case makeMap t r=>
  have fin:∀ (m':Map) (nx:Nat) (w w':World),m' nx=some ⟨w.heap.size,0,0⟩→w'.heap=w.heap.push (.map #[] 0)→Holds m' w' nx (.map [] 0)∧cvo m' (.mp nx)=some (.map (some w.heap.size)):=by
   intro m' nx w w' hm hw
   exact ⟨⟨_,#[],hm,by rw[hw];simp,.nil⟩,by simp[cvo,hm]⟩
  split at h
  ·rename_i kt et ht
   obtain ⟨rfl,rfl⟩:=Prod.mk.inj (Option.some.inj h)
   refine ⟨.map #[] 0,0,fun m' nx w w' he hm hw=>⟨(fin m' nx w w' hm hw).1,_,(fin m' nx w w' hm hw).2,?_⟩⟩
   simp[Instr.makeMap]
  ·rename_i kt et x ht
   split at h
   ·rename_i n hn
    obtain ⟨rfl,rfl⟩:=Prod.mk.inj (Option.some.inj h)
    obtain ⟨k,hk⟩:=bd_ok hρ hn
    refine ⟨.map #[] 0,0,fun m' nx w w' he hm hw=>⟨(fin m' nx w w' hm hw).1,_,(fin m' nx w w' hm hw).2,?_⟩⟩
    simp[Instr.makeMap,run_und ht,hk,asInt,asIntOf]
   ·cases h
  ·cases h
end
end Am
end
section
namespace Am
open Go
noncomputable section
variable {P:Program}
def onec:AV→Bool
 | .ag _=>false
 | .tp _=>false
 | .v u=>onecV u
 | _=>true
def allc (l:List AV):Bool:=List.rec true (fun a _ ih=>onec a && ih) l
theorem onec_ok {m:Map}{a:AV}{v:Value}(h:cvo m a=some v) (ha:onec a=true):v.oneCell'=true:=by
 cases a<;>simp only[cvo,Option.map_eq_some_iff,Option.bind_eq_some_iff,Option.some.injEq,Option.ite_none_right_eq_some]at h
 case ag=>cases ha
 case tp=>cases ha
 case s=>obtain ⟨_,rfl⟩:=h;rfl
 case p=>obtain ⟨_,_,rfl⟩:=h;rfl
 case sl=>obtain ⟨_,_,_,rfl⟩:=h;rfl
 case mp=>obtain ⟨_,_,rfl⟩:=h;rfl
 case fn=>obtain ⟨_,_,_,_,rfl⟩:=h;rfl
 case ifc=>obtain ⟨_,_,rfl⟩:=h;rfl
 case v u=>obtain ⟨h1,rfl⟩:=h;cases u<;>first|rfl|cases h1
 all_goals subst h;rfl
theorem allc_ok {m:Map}:∀ {l:List AV}{vs:List Value},cvs m l=some vs→allc l=true→∀ v∈vs,v.oneCell'=true
 | [],vs,h,_,v,hv=>by simp[cvs]at h;subst h;cases hv
 | a :: l,vs,h,ha,v,hv=>by
   obtain ⟨u,us,h1,h2,rfl⟩:=cvs_cons.1 h
   have ha':(onec a && allc l)=true:=ha
   rw[Bool.and_eq_true]at ha'
   rcases List.mem_cons.1 hv with rfl|hv
   ·exact onec_ok h1 ha'.1
   ·exact allc_ok h2 ha'.2 v hv
structure Only (w w':World) (b:Nat):Prop where
 os:w'.os=w.os
 tape:w'.tape=w.tape
 output:w'.output=w.output
 size:w'.heap.size=w.heap.size
 block:∀ k,k≠b→w'.heap[k]?=w.heap[k]?
theorem Only.refl (w:World) (b:Nat):Only w w b:=⟨rfl,rfl,rfl,rfl,fun _ _=>rfl⟩
theorem Only.trans {a b c:World}{k:Nat}(h:Only a b k) (g:Only b c k):Only a c k:=
 ⟨g.os.trans h.os,g.tape.trans h.tape,g.output.trans h.output,g.size.trans h.size,fun i hi=>(g.block i hi).trans (h.block i hi)⟩
theorem stores_run (b o:Nat) (t:TypeId) (fr:Nat × Nat):∀ (vs:List Value) (i:Nat) (c:Array Value) (w:World),w.heap[b]?=some (.cells c t fr)→o+i+vs.length≤c.size→(∀ v∈vs,v.oneCell'=true) →
 (∀ j,o+i≤j→j<o+i+vs.length→¬ (fr.1≤j∧j<fr.2)) →
 ∃ w' c',(storeCells ⟨b,o,none⟩ vs i).run P w=.ok () w'∧w'.heap[b]?=some (.cells c' t fr)∧Only w w' b∧c'.size=c.size ∧
   (∀ j,o+i≤j→j<o+i+vs.length→c'[j]?=vs[j - (o+i)]?)∧(∀ j,(j<o+i∨o+i+vs.length≤j)→c'[j]?=c[j]?)
 | [],i,c,w,h,hl,hv,hf=>⟨w,c,rfl,h,.refl _ _,rfl,fun j h1 h2=>by simp at h2;omega,fun j _=>rfl⟩
 | v :: vs,i,c,w,h,hl,hv,hf=>by
   simp only[List.length_cons]at hl hf
   have hlt:o+i<c.size:=by omega
   have hc:w.cell? ⟨b,o+i,none⟩=some (c[o+i]'hlt):=by simp[World.cell?,h,hlt]
   have hfz:w.frozen? ⟨b,o+i,none⟩=false:=by
    have:=hf (o+i) (Nat.le_refl _) (by omega)
    simp only[World.frozen?,h]
    rw[Bool.eq_false_iff]
    simpa using this
   have h1:(w.setCell ⟨b,o+i,none⟩ v).heap[b]?=some (.cells (c.setIfInBounds (o+i) v) t fr):=by
    simp[World.setCell,Array.getElem?_modify,h]
   obtain ⟨w',c',f1,f2,f3,f4,f5,f6⟩:=stores_run b o t fr vs (i+1) _ (w.setCell ⟨b,o+i,none⟩ v) h1 (by simp;omega) (fun u hu=>hv u (List.mem_cons_of_mem _ hu)) (fun j j1 j2=>hf j (by omega) (by omega))
   have hon:Only w (w.setCell ⟨b,o+i,none⟩ v) b:=⟨rfl,rfl,rfl,by simp[World.setCell],fun k hk=>by
    simp only[World.setCell,Array.getElem?_modify]
    rw[if_neg (fun e=>hk e.symm)]⟩
   refine ⟨w',c',?_,f2,hon.trans f3,by rw[f4];simp,?_,?_⟩
   ·rw[storeCells]
    simp only[addr_add,Sem.run_bind]
    rw[run_store _ _ _ _ _ (hv v List.mem_cons_self)]
    simp only[hc,hfz,Bool.false_eq_true,if_false,Result.andThen_ok]
    exact f1
   ·intro j j1 j2
    simp only[List.length_cons]at j2
    by_cases e:j=o+i
    ·subst e
     rw[f6 _ (.inl (by omega)),Nat.sub_self,List.getElem?_cons_zero,Array.getElem?_setIfInBounds_self]
     simp[hlt]
    ·rw[f5 j (by omega) (by omega),show j - (o+i)=(j - (o+(i+1)))+1 by omega,List.getElem?_cons_succ]
   ·intro j hj
    simp only[List.length_cons]at hj
    rw[f6 j (by omega),Array.getElem?_setIfInBounds_ne (by omega)]
def asto (g:Nat) (S:St) (id off:Nat) (l:List AV):Option St:=
 match S.h.get id with
 | some (.cells t cs fz ex)=>bif ((Nat.ble g id && Nat.ble fz off) && Nat.ble (off+len l) (len cs)) && allc l then
  some ⟨S.h.put (some (.cells t (putR off l cs) fz ex)) id,S.nx⟩else none
 | _=>none
theorem putR_length {off:Nat}{l cs:List AV}(h:off+l.length≤cs.length):(putR off l cs).length=cs.length:=by
 rw[putR_eq,tke_eq,drp_eq,len_eq]
 simp only[List.length_append,List.length_take,List.length_drop];omega
theorem putR_cvs {m:Map}{off:Nat}{l cs:List AV}{us vs:List Value}(hl:cvs m l=some us) (hc:cvs m cs=some vs):cvs m (putR off l cs)=some (vs.take off ++ (us ++ vs.drop (off+us.length))):=by
 rw[putR_eq,tke_eq,drp_eq,len_eq,← cvs_length hl]
 exact cvs_append (cvs_take _ hc) (cvs_append hl (cvs_drop _ hc))
theorem asto_ok {g:Nat}{m:Map}{S S':St}{w:World}(hR:R S.lk m w) {id off:Nat}{l:List AV}{us:List Value}(h:asto g S id off l=some S') (hl:cvs m l=some us) {L:Loc}(hL:m id=some L) :
 ∃ w',(storeCells ⟨L.b,L.s+off,none⟩ us).run P w=.ok () w'∧Step g m S.lk S.nx w m S'.lk S'.nx w':=by
 unfold asto at h
 split at h
 ·rename_i t cs fz ex hlk
  cases hb:(((Nat.ble g id && Nat.ble fz off) && Nat.ble (off+len l) (len cs)) && allc l)with
  | false=>rw[hb]at h;cases h
  | true=>
    rw[hb,cond_true]at h
    rw[Bool.and_eq_true,Bool.and_eq_true,Bool.and_eq_true,Nat.ble_eq,Nat.ble_eq,Nat.ble_eq,len_eq,len_eq]at hb
    obtain ⟨⟨⟨b1,b2⟩,b3⟩,b4⟩:=hb
    obtain rfl:=Option.some.inj h
    obtain ⟨L',c,fr,vs,h1,h2,h3,h4,h5,h6,h7,h8⟩:=hR.holds _ _ hlk
    obtain rfl:=Option.some.inj (hL.symm.trans h1)
    have e1:=cvs_length hl
    have e2:=cvs_length h5
    obtain ⟨w',c',f1,f2,f3,f4,f5,f6⟩:=stores_run (P:=P) L.b (L.s+off) t fr us 0 c w h2 (by omega) (allc_ok hl b4) (fun j j1 j2 hh=>h7 (j - L.s) (by omega) (by omega) (by rw[show L.s+(j - L.s)=j by omega];exact hh))
    refine ⟨w',f1,Step.put (blk:=.cells t (putR off l cs) fz ex) hR b1 hlk hL f3.block f3.size f3.os f3.tape f3.output (fun j b hj=>?_) (fun j hj=>T.get_put_ne _ _ _ _ hj) ?_⟩
    ·exact T.get_put _ _ _ _ hj
    ·refine ⟨L,c',fr,_,hL,f2,by omega,by rw[putR_length (by omega)];exact h4,putR_cvs hl h5,?_,h7,fun he=>?_⟩
     ·intro i v hv
      by_cases i1:i<off
      ·rw[List.getElem?_append_left (by simp;omega),List.getElem?_take_of_lt i1]at hv
       rw[f6 _ (.inl (by omega))];exact h6 i v hv
      ·by_cases i2:i<off+us.length
       ·rw[List.getElem?_append_right (by simp;omega),List.getElem?_append_left (by simp;omega)]at hv
        rw[f5 _ (by omega) (by omega),← hv]
        congr 1;simp;omega
       ·rw[List.getElem?_append_right (by simp;omega),List.getElem?_append_right (by simp;omega),List.getElem?_drop]at hv
        rw[f6 _ (.inr (by omega))]
        refine h6 i v ?_
        rw[← hv];congr 1;simp;omega
     ·obtain ⟨g1,g2⟩:=h8 he
      exact ⟨g1,by rw[f4,g2,putR_length (by omega)]⟩
 ·cases h
def abyt:Nat→Nat→List AV
 | 0,_=>[]
 | n+1,x=>.i .u8 (.ofNat (Nat.mod x 256)) :: abyt n (Nat.div x 256)
theorem abyt_ok (m:Map):∀ n x,cvs m (abyt n x)=some ((unp n x).map fun b=>.int .u8 b.toNat)
 | 0,_=>rfl
 | n+1,x=>by
   refine cvs_cons.2 ⟨.int .u8 ((UInt8.ofNat (x % 256)).toNat:Int),_,?_,abyt_ok m n (x / 256),rfl⟩
   have:(UInt8.ofNat (x % 256)).toNat=x % 256:=by simp[UInt8.toNat_ofNat']
   rw[this];rfl
def alno:AV→Option Nat
 | .sl _ _ n _ _ _=>some n
 | .nsl=>some 0
 | .s n _=>some n
 | _=>none
def afst (lk:Lk) (es n:Nat):AV→Option (List AV)
 | .sl id off _ _ es' _=>match lk id with
   | some (.cells _ cs _ _)=>bif (Nat.beq es' es && Nat.beq (len (tke (n*es) (drp off cs))) (n*es))then some (tke (n*es) (drp off cs))else none
   | _=>none
 | .nsl=>bif Nat.beq n 0 then some []else none
 | .s k x=>bif Nat.beq k n && Nat.beq es 1 then some (abyt n x)else none
 | _=>none
theorem alno_ok {m:Map}{a:AV}{v:Value}{n:Nat}(h:alno a=some n) (ha:cvo m a=some v) (w:World):(Builtin.lenOf v).run P w=.ok n w:=by
 unfold alno at h
 split at h
 ·obtain rfl:=Option.some.inj h
  simp only[cvo,Option.bind_eq_some_iff,Option.ite_none_right_eq_some,Option.some.injEq]at ha
  obtain ⟨L,_,_,rfl⟩:=ha
  rfl
 ·obtain rfl:=Option.some.inj h
  simp only[cvo,Option.some.injEq]at ha;subst ha;rfl
 ·obtain rfl:=Option.some.inj h
  simp only[cvo,Option.ite_none_right_eq_some,Option.some.injEq]at ha
  obtain ⟨_,rfl⟩:=ha
  simp[Builtin.lenOf,ByteArray.size,unp_length]
 ·cases h
theorem afst_ok {m:Map}{lk:Lk}{w:World}(hR:R lk m w) {a:AV}{v:Value}{n es:Nat}{l:List AV}(hln:∃ k,alno a=some k∧n≤k) (h:afst lk es n a=some l) (ha:cvo m a=some v) :
 ∃ us,cvs m l=some us∧(Builtin.firstCells es n v).run P w=.ok us.toArray w∧us.length=n*es:=by
 unfold afst at h
 split at h
 ·rename_i id off n0 cap es' pre
  split at h
  ·rename_i t cs fz ex hlk
   cases hb:(Nat.beq es' es && Nat.beq (len (tke (n*es) (drp off cs))) (n*es))with
   | false=>rw[hb]at h;cases h
   | true=>
     rw[hb,cond_true]at h
     rw[Bool.and_eq_true,Nat.beq_eq,Nat.beq_eq,len_eq,tke_eq,drp_eq]at hb
     obtain ⟨rfl,hb⟩:=hb
     obtain rfl:=Option.some.inj h
     obtain ⟨L,c,fr,vs,h1,h2,h3,h4,h5,h6,_⟩:=hR.holds _ _ hlk
     simp only[cvo,h1,Option.bind_some,Option.ite_none_right_eq_some,Option.some.injEq]at ha
     obtain ⟨⟨g1,g2,g3⟩,rfl⟩:=ha
     have hvs:=cvs_take (n*es') (cvs_drop off h5)
     have hlen:=cvs_length hvs
     refine ⟨_,by rw[tke_eq,drp_eq];exact hvs,?_,by rw[hlen,hb]⟩
     by_cases hn:n=0
     ·subst hn
      simp[Builtin.firstCells,loadCells,loadCellsFrom]
     ·obtain ⟨k,hk,hkn⟩:=hln
      simp only[alno,Option.some.injEq]at hk
      subst hk
      have hc:cap.getD ((L.e - off) / es')≠0:=by omega
      rw[if_neg hc,Nat.sub_zero]
      have hcell:∀ j v,((vs.drop off).take (n*es'))[j]?=some v→w.cell? ((⟨L.b,L.s+off,none⟩:Addr).add j)=some v:=by
       intro j v hj
       rw[addr_add]
       rw[List.getElem?_take]at hj
       split at hj
       ·rw[List.getElem?_drop]at hj
        have:=h6 _ _ hj
        rw[← Nat.add_assoc]at this
        exact cell_at h2 this
       ·cases hj
      have hl:=run_loadCells_list (P:=P) (w:=w) ⟨L.b,L.s+off,none⟩ _ hcell
      rw[hlen,hb]at hl
      exact hl
  ·cases h
 ·cases hb:Nat.beq n 0 with
  | false=>rw[hb]at h;cases h
  | true=>
    rw[hb,cond_true]at h
    rw[Nat.beq_eq]at hb
    obtain rfl:=Option.some.inj h
    simp only[cvo,Option.some.injEq]at ha;subst ha
    exact ⟨[],rfl,rfl,by simp[hb]⟩
 ·rename_i k x
  cases hb:(Nat.beq k n && Nat.beq es 1)with
  | false=>rw[hb]at h;cases h
  | true=>
    rw[hb,cond_true]at h
    rw[Bool.and_eq_true,Nat.beq_eq,Nat.beq_eq]at hb
    obtain ⟨rfl,rfl⟩:=hb
    obtain rfl:=Option.some.inj h
    simp only[cvo,Option.ite_none_right_eq_some,Option.some.injEq]at ha
    obtain ⟨_,rfl⟩:=ha
    refine ⟨_,abyt_ok m k x,?_,by simp[unp_length]⟩
    simp only[Builtin.firstCells,ba_extract,Sem.run_pure]
    congr 1
    simp[List.take_of_length_le (Nat.le_of_eq (unp_length k x))]
 ·cases h
end
end Am
end
section
namespace Am
open Go
noncomputable section
variable {P:Program}
def appZ (P:Program):List TypeId→Bool
 | [x]=>match und P x with
   | some (.slice _)=>true
   | some .string=>true
   | _=>false
 | _=>false
def afresh (S:St) (e:TypeId) (es need:Nat) (cs:List AV):AV × St:=
 (.sl S.nx 0 need none es 0,⟨S.h.put (some (.cells e cs 0 false)) S.nx,Nat.succ S.nx⟩)
def aapp1 (g:Nat) (S:St) (e:TypeId) (n:Nat) (new:List AV) (es:Nat):AV→Option (AV × St)
 | .nsl=>bif Nat.beq n 0 then some (.nsl,S)else some (afresh S e es n new)
 | .sl id off ln cap es' pre=>bif Nat.beq n 0 then some (.sl id off ln cap es' pre,S)else
   bif Nat.beq es' es && Nat.ble (ln+n) 1073741824 then
    match cap with
    | some c=>bif Nat.ble (ln+n) c then
     match asto g S id (off+ln*es) new with
     | some S'=>some (.sl id off (ln+n) (some c) es pre,S')
     | none=>none
     else match afst S.lk es ln (.sl id off ln (some c) es pre)with
      | some old=>some (afresh S e es (ln+n) (old ++ new))
      | none=>none
    | none=>match S.h.get id,afst S.lk es ln (.sl id off ln none es pre)with
      | some (.cells t0 _ fz _),some old=>
        bif (Nat.beq t0 e && Nat.ble g id) && Nat.ble fz (off+ln*es)then
         some (.sl S.nx 0 (ln+n) none es 0,⟨(S.h.put none id).put (some (.cells e (old ++ new) (fz - off) false)) S.nx,Nat.succ S.nx⟩)
        else none
      | _,_=>none
   else none
 | _=>none
def aapp (P:Program) (g:Nat) (S:St) (ts:List TypeId) (s x:AV):Option (AV × St):=
 match ts with
 | []=>none
 | t :: rest=>match und P t with
   | some (.slice e)=>match inf P e,zero P e,alno x with
     | some i,some z,some n=>
       bif ((appZ P rest && !(Nat.beq i.size 0)) && (Nat.beq (len (cel z)) i.size && Nat.ble i.bytes 65536)) && (Nat.ble g S.nx && Nat.ble n 1073741824)then
        match afst S.lk i.size n x with
        | some new=>bif allc new then aapp1 g S e n new i.size s else none
        | none=>none
       else none
     | _,_,_=>none
   | _=>none
theorem app_src {m:Map}{lk:Lk}{w:World}(hR:R lk m w) {rest:List TypeId}(hz:appZ P rest=true) {x:AV}{xv:Value}{n es:Nat}{l:List AV}(hx:cvo m x=some xv) (hn:alno x=some n) (hl:afst lk es n x=some l) (hc:allc l=true) :
 ∃ tx us,rest = [tx]∧Src P es tx xv n us w∧cvs m l=some us:=by
 obtain ⟨us,h1,h2,h3⟩:=afst_ok (P:=P) hR ⟨n,hn,Nat.le_refl _⟩ hl hx
 obtain ⟨us',h1',h2',_⟩:=afst_ok (P:=P) (w:=w.drew) (hR.heap rfl) ⟨n,hn,Nat.le_refl _⟩ hl hx
 obtain rfl:=Option.some.inj (h1.symm.trans h1')
 have hlen:∀ w',(Builtin.lenOf xv).run P w'=.ok n w':=fun w'=>alno_ok hn hx w'
 unfold appZ at hz
 split at hz
 ·rename_i tx
  split at hz
  ·rename_i e' hk;exact ⟨tx,us,rfl,⟨.inl ⟨e',und_ok hk⟩,hlen,h2,h2',h3,allc_ok h1 hc⟩,h1⟩
  ·rename_i hk;exact ⟨tx,us,rfl,⟨.inr (und_ok hk),hlen,h2,h2',h3,allc_ok h1 hc⟩,h1⟩
  ·cases hz
 ·cases hz
theorem app_in {t tx e:TypeId}{i:TypeInfo}(ht:und P t=some (.slice e)) (hi:inf P e=some i) {w w':World}{xv:Value}{n:Nat}{news:List Value}(hs:Src P i.size tx xv n news w) (base:Option Addr) (ln c:Nat) (hle:ln+n≤c)
 (hst:∀ a,base=some a→(storeCells (a.add (ln*i.size)) news).run P w=.ok () w') (hb:base=none→w'=w) (ty:TypeId) :
 (Builtin.append_ #[t,tx] ty #[.slice base ln c,xv]).run P w=.ok (.slice base (ln+n) c) w':=by
 cases base with
 | none=>rw[hb rfl];rcases hs.kind with ⟨e',hk⟩|hk<;>simp[Builtin.append_,run_und ht,Go.run_underlying hk,Go.sizeOf,typeInfo,inf_ok hi,hs.len,hle,hs.cells]
 | some a=>rcases hs.kind with ⟨e',hk⟩|hk<;>simp[Builtin.append_,run_und ht,Go.run_underlying hk,Go.sizeOf,typeInfo,inf_ok hi,hs.len,hle,hs.cells,hst a rfl]
theorem fresh_ok {g:Nat}{m:Map}{S:St}{w:World}(hR:R S.lk m w) (hg:g≤S.nx) (hm:m S.nx=none) {e:TypeId}{es need cap:Nat}{cs:List AV}{vs:List Value}{tail:Array Value}(hcs:cvs m cs=some vs) (hl:vs.length=need*es) (h0:0<es) (hc:need≤cap) (ht:tail.size=(cap - need)*es) :
 cvo (mset m S.nx ⟨w.heap.size,0,cap*es⟩) (afresh S e es need cs).1=some (.slice (some ⟨w.heap.size,0,none⟩) need cap) ∧
 Step g m S.lk S.nx w (mset m S.nx ⟨w.heap.size,0,cap*es⟩) (afresh S e es need cs).2.lk (afresh S e es need cs).2.nx (w.drew.alloc (.cells (vs.toArray ++ tail) e)):=by
 have hmul:need*es+(cap - need)*es=cap*es:=by rw[← Nat.add_mul];congr 1;omega
 constructor
 ·simp only[afresh,cvo,mset_self,Option.bind_some,Option.getD_none,Nat.sub_zero,Nat.mul_div_cancel _ h0]
  rw[if_pos ⟨hc,h0,by omega⟩]
  by_cases e0:cap=0<;>simp[e0]
 ·refine Step.new (blk:=.cells e cs 0 false) hR hg hm rfl rfl rfl rfl (fun j b hj=>T.get_put _ _ _ _ hj) (fun j hj=>T.get_put_ne _ _ _ _ hj) ?_
  refine ⟨_,vs.toArray ++ tail,(0,0),vs,mset_self _ _ _,(by show (w.heap.push _)[w.heap.size]?=_;simp),by simp;omega,by rw[← cvs_length hcs];simp only;omega,cvs_mono (mset_ext hm) _ hcs,fun i v hv=>?_,fun i _ _ hh=>by simp at hh,fun h=>by cases h⟩
  have hi:i<vs.length:=(List.getElem?_eq_some_iff.1 hv).1
  simp only[Nat.zero_add]
  rw[Array.getElem?_append_left (by simpa using hi)]
  simpa using hv
theorem grow_ok {g:Nat}{m:Map}{S:St}{w:World}(hR:R S.lk m w) (hg:g≤S.nx) (hm:m S.nx=none) {t tx e ty:TypeId}{i:TypeInfo}{z:AV}(ht:und P t=some (.slice e)) (hi:inf P e=some i) (hz:zero P e=some z) (hzl:(cel z).length=i.size) (h0:i.size≠0) (hby:i.bytes≤65536)
 {xv:Value}{n:Nat}{news olds:List Value}{new old:List AV}(hs:Src P i.size tx xv n news w) (hnew:cvs m new=some news) (hold:cvs m old=some olds) (base:Option Addr) (ln c:Nat) (hlt:c<ln+n) (hsm:ln+n≤1073741824) (holn:olds.length=ln*i.size)
 (hrun:(Builtin.firstCells i.size ln (.slice base ln c)).run P w.drew=.ok olds.toArray w.drew) :
 ∃ m' w' v,(Builtin.append_ #[t,tx] ty #[.slice base ln c,xv]).run P w=.ok v w'∧cvo m' (afresh S e i.size (ln+n) (old ++ new)).1=some v∧Step g m S.lk S.nx w m' (afresh S e i.size (ln+n) (old ++ new)).2.lk (afresh S e i.size (ln+n) (old ++ new)).2.nx w':=by
 obtain ⟨v,hv,hrz⟩:=zero_ok hz m
 have hzz:∃ zz,i.zero=some zz∧cvo m z=some zz:=by
  unfold zero at hz
  simp only[hi]at hz
  split at hz
  ·rename_i zz hzz;exact ⟨zz,hzz,konst_ok hz⟩
  ·cases hz
 obtain ⟨zz,hzz,hcz⟩:=hzz
 have hzs:zz.cells.size=i.size:=by rw[← Array.length_toList,cvs_length (cel_ok hcz),hzl]
 have hfit:Builtin.nextslicecap (ln+n) c*i.bytes≤281474976710656:=by
  refine Nat.le_trans (Nat.mul_le_mul (nextslicecap_le hlt) hby) ?_
  omega
 have hr:=run_append_grow_src (P:=P) w t tx ty e i zz (und_ok ht) (inf_ok hi) hzz base ln c olds hrun xv n news hs hlt (by omega) hfit
 have hge:=grownCap_ge w (ln+n) c e
 obtain ⟨f1,f2⟩:=fresh_ok (e:=e) hR hg hm (cvs_append hold hnew) (need:=ln+n) (es:=i.size) (cap:=grownCap w (ln+n) c e) (tail:=Builtin.zeroCells zz.cells (grownCap w (ln+n) c e - (ln+n)))
  (by rw[List.length_append,holn,hs.newsLen,Nat.add_mul]) (by omega) hge (by rw[size_zeroCells,hzs])
 exact ⟨_,_,_,hr,f1,f2⟩
end
end Am
end
