/- A machine for closed runs: append. No program in sight. -/
import Derived.Test.YtbdfhnelmojbpaaGreatDoorWac
import Derived.Laws.BytesString
import Derived.Laws.RangeString
set_option linter.unusedVariables false
set_option linter.unusedSimpArgs false
section
namespace Am
open Go
noncomputable section
variable {P:Program}
theorem move_ok {g:Nat}{m:Map}{S:St}{w:World}(hR:R S.lk m w) (hg:g≤S.nx) (hm:m S.nx=none) {id off ln n es fz:Nat}{e:TypeId}{cs:List AV}{ex:Bool}{L:Loc}(hL:m id=some L) (hlk:S.h.get id=some (.cells e cs fz ex)) (hgi:g≤id) (hfz:fz≤off+ln*es)
 {news olds:List Value}{new old:List AV}(hnew:cvs m new=some news) (hnl:news.length=n*es) (hone:∀ v∈news,v.oneCell'=true) (hold:cvs m old=some olds) (holn:olds.length=ln*es) (hoc:∀ i v,olds[i]?=some v→∀ vs,cvs m cs=some vs→vs[off+i]?=some v)
 (h0:0<es) (hn:0<n) (hle:ln+n≤(L.e - off) / es) (hoff:off+(L.e - off) / es*es≤L.e) :
 ∃ w',(storeCells ⟨L.b,L.s+off+ln*es,none⟩ news).run P w=.ok () w'∧cvo (mset m S.nx ⟨L.b,L.s+off,L.e - off⟩) (.sl S.nx 0 (ln+n) none es 0)=some (.slice (some ⟨L.b,L.s+off,none⟩) (ln+n) ((L.e - off) / es)) ∧
   Step g m S.lk S.nx w (mset m S.nx ⟨L.b,L.s+off,L.e - off⟩) ((S.h.put none id).put (some (.cells e (old ++ new) (fz - off) false)) S.nx).get (S.nx+1) w':=by
 obtain ⟨L',c,fr,vs,h1,h2,h3,h4,h5,h6,h7,h8⟩:=hR.holds _ _ hlk
 obtain rfl:=Option.some.inj (hL.symm.trans h1)
 have hmul:(ln+n)*es≤(L.e - off) / es*es:=Nat.mul_le_mul_right es hle
 rw[Nat.add_mul]at hmul
 obtain ⟨w',c',f1,f2,f3,f4,f5,f6⟩:=stores_run (P:=P) L.b (L.s+off+ln*es) e fr news 0 c w h2 (by omega) hone (fun j j1 j2 hh=>h7 (j - L.s) (by omega) (by omega) (by rw[show L.s+(j - L.s)=j by omega];exact hh))
 have hne:S.nx≠id:=fun e=>by rw[e,hL]at hm;cases hm
 refine ⟨w',f1,?_,Step.move (blk:=.cells e (old ++ new) (fz - off) false) hR hgi hg hlk hL hm rfl f3.block f3.size f3.os f3.tape f3.output (fun j b hj=>?_) (fun j j1 j2=>?_) ?_⟩
 ·simp only[cvo,mset_self,Option.bind_some,Option.getD_none,Nat.sub_zero]
  rw[if_pos ⟨hle,h0,by omega⟩]
  by_cases e0:(L.e - off) / es=0<;>simp[e0]
 ·rcases T.get_put _ _ _ _ hj with ⟨rfl,rfl⟩|⟨k1,k2⟩
  ·exact .inl ⟨rfl,rfl⟩
  ·by_cases k3:j=id
   ·subst k3;rw[T.get_put_none]at k2;cases k2
   ·rw[T.get_put_ne _ _ _ _ k3]at k2;exact .inr ⟨k1,k3,k2⟩
 ·rw[T.get_put_ne _ _ _ _ j2,T.get_put_ne _ _ _ _ j1];rfl
 ·have e2:=cvs_length h5
  have hcv:=cvs_append hold hnew
  refine ⟨_,c',fr,_,mset_self _ _ _,f2,by simp only;omega,by rw[← cvs_length hcv,List.length_append];simp only;omega,cvs_mono (mset_ext hm) _ hcv,fun i v hv=>?_,fun i i1 i2 hh=>?_,fun h=>by cases h⟩
  ·by_cases i1:i<ln*es
   ·rw[List.getElem?_append_left (by omega)]at hv
    simp only
    rw[f6 _ (.inl (by omega)),Nat.add_assoc]
    exact h6 _ _ (hoc i v hv vs h5)
   ·rw[List.getElem?_append_right (by omega)]at hv
    have hil:i - olds.length<news.length:=(List.getElem?_eq_some_iff.1 hv).1
    simp only
    rw[f5 _ (by omega) (by omega),← hv]
    congr 1;omega
  ·simp only at i2 hh
   exact h7 (off+i) (by omega) (by omega) (by rw[← Nat.add_assoc];exact hh)
theorem aapp_ok {g:Nat}{m:Map}{S S':St}{w:World}(hR:R S.lk m w) (hf:Fre m S.nx S'.nx) {ts:List TypeId}{s x r:AV}{sv xv:Value}(h:aapp P g S ts s x=some (r,S')) (hs:cvo m s=some sv) (hx:cvo m x=some xv) (ty:TypeId) :
 ∃ m' w' v,(Builtin.append_ ts.toArray ty #[sv,xv]).run P w=.ok v w'∧cvo m' r=some v∧Step g m S.lk S.nx w m' S'.lk S'.nx w':=by
 unfold aapp at h
 split at h
 ·cases h
 rename_i t rest
 split at h
 rotate_left
 ·cases h
 rename_i e ht
 split at h
 rotate_left
 ·cases h
 rename_i i z n hi hz hn
 cases hb:(((appZ P rest && !(Nat.beq i.size 0)) && (Nat.beq (len (cel z)) i.size && Nat.ble i.bytes 65536)) && (Nat.ble g S.nx && Nat.ble n 1073741824))with
 | false=>rw[hb]at h;cases h
 | true=>
 rw[hb,cond_true]at h
 rw[Bool.and_eq_true,Bool.and_eq_true,Bool.and_eq_true,Bool.and_eq_true,Bool.and_eq_true,Bool.not_eq_true',← Bool.not_eq_true,Nat.beq_eq,Nat.beq_eq,Nat.ble_eq,Nat.ble_eq,Nat.ble_eq,len_eq]at hb
 obtain ⟨⟨⟨b1,b2⟩,b3,b4⟩,b5,b6⟩:=hb
 split at h
 rotate_left
 ·cases h
 rename_i new hnew
 cases hc:allc new with
 | false=>rw[hc]at h;cases h
 | true=>
 rw[hc,cond_true]at h
 obtain ⟨tx,news,rfl,hsrc,hcn⟩:=app_src (P:=P) hR b1 hx hn hnew hc
 have fre1:S'.nx=S.nx+1→m S.nx=none:=fun e=>hf S.nx (Nat.le_refl _) (by omega)
 unfold aapp1 at h
 split at h
 ·simp only[cvo,Option.some.injEq]at hs;subst hs
  cases hn0:Nat.beq n 0 with
  | true=>
    rw[hn0,cond_true]at h
    rw[Nat.beq_eq]at hn0;subst hn0
    obtain ⟨rfl,rfl⟩:=Prod.mk.inj (Option.some.inj h)
    exact ⟨m,w,.slice none 0 0,app_in ht hi hsrc none 0 0 (by omega) (fun a e=>by cases e) (fun _=>rfl) ty,rfl,Step.refl hR⟩
  | false=>
    rw[hn0,cond_false]at h
    rw[Bool.eq_false_iff,Ne,Nat.beq_eq]at hn0
    have h':=Option.some.inj h
    have e1:S'=(afresh S e i.size (0+n) ([] ++ new)).2:=by rw[Nat.zero_add,List.nil_append,h']
    have e2:r=(afresh S e i.size (0+n) ([] ++ new)).1:=by rw[Nat.zero_add,List.nil_append,h']
    obtain ⟨m',w',v,f1,f2,f3⟩:=grow_ok (P:=P) (ty:=ty) (old:=[]) (olds:=[]) hR b5 (fre1 (by rw[e1];rfl)) ht hi hz b3 b2 b4 hsrc hcn rfl none 0 0 (by omega) (by omega) (by simp) (run_firstCells_none _ _ _ _ _)
    exact ⟨m',w',v,f1,by rw[e2];exact f2,by rw[e1];exact f3⟩
 ·rename_i id off ln cap es pre
  cases hn0:Nat.beq n 0 with
  | true=>
    rw[hn0,cond_true]at h
    rw[Nat.beq_eq]at hn0;subst hn0
    obtain ⟨rfl,rfl⟩:=Prod.mk.inj (Option.some.inj h)
    have hs':=hs
    simp only[cvo,Option.bind_eq_some_iff,Option.ite_none_right_eq_some,Option.some.injEq]at hs'
    obtain ⟨L,hL,⟨g1,g2,g3⟩,rfl⟩:=hs'
    have hnil:news = []:=List.eq_nil_of_length_eq_zero (by rw[hsrc.newsLen,Nat.zero_mul])
    subst hnil
    exact ⟨m,w,_,app_in ht hi hsrc _ ln _ g1 (fun a e=>rfl) (fun _=>rfl) ty,hs,Step.refl hR⟩
  | false=>
  rw[hn0,cond_false]at h
  rw[Bool.eq_false_iff,Ne,Nat.beq_eq]at hn0
  cases hb2:(Nat.beq es i.size && Nat.ble (ln+n) 1073741824)with
  | false=>rw[hb2]at h;cases h
  | true=>
  rw[hb2,cond_true]at h
  rw[Bool.and_eq_true,Nat.beq_eq,Nat.ble_eq]at hb2
  obtain ⟨rfl,hsm⟩:=hb2
  have hs':=hs
  simp only[cvo,Option.bind_eq_some_iff,Option.ite_none_right_eq_some,Option.some.injEq]at hs'
  obtain ⟨L,hL,⟨g1,g2,g3⟩,hsv⟩:=hs'
  have fresh:∀ (old:List AV) (c:Nat),cap.getD ((L.e - off) / i.size)=c→¬ ln+n≤c→afst S.lk i.size ln (.sl id off ln cap i.size pre)=some old→m S.nx=none →
   ∃ m' w' v,(Builtin.append_ #[t,tx] ty #[sv,xv]).run P w=.ok v w'∧cvo m' (afresh S e i.size (ln+n) (old ++ new)).1=some v∧Step g m S.lk S.nx w m' (afresh S e i.size (ln+n) (old ++ new)).2.lk (afresh S e i.size (ln+n) (old ++ new)).2.nx w':=by
   intro old c hcc hlt ho hm
   obtain ⟨olds,o1,o2,o3⟩:=afst_ok (P:=P) (w:=w.drew) (hR.heap rfl) ⟨ln,rfl,Nat.le_refl _⟩ ho hs
   rw[← hsv,hcc]at o2 ⊢
   exact grow_ok (P:=P) (ty:=ty) hR b5 hm ht hi hz b3 b2 b4 hsrc hcn o1 _ ln c (by omega) hsm o3 o2
  split at h
  ·rename_i c
   simp only[Option.getD_some]at g1 g3 hsv
   cases hle:Nat.ble (ln+n) c with
   | true=>
     rw[hle,cond_true]at h
     rw[Nat.ble_eq]at hle
     split at h
     ·rename_i S1 hS1
      obtain ⟨rfl,rfl⟩:=Prod.mk.inj (Option.some.inj h)
      obtain ⟨w',q1,q2⟩:=asto_ok (P:=P) hR hS1 hcn hL
      have hc0:c≠0:=by omega
      rw[if_neg hc0,Nat.sub_zero]at hsv
      refine ⟨m,w',.slice (some ⟨L.b,L.s+off,none⟩) (ln+n) c,?_,?_,q2⟩
      ·rw[← hsv]
       exact app_in ht hi hsrc _ ln c hle (fun a ea=>by
        obtain rfl:=Option.some.inj ea
        rw[addr_add,Nat.add_assoc];exact q1) (fun ea=>by cases ea) ty
      ·simp only[cvo,hL,Option.bind_some,Option.getD_some]
       rw[if_pos ⟨hle,g2,g3⟩,if_neg hc0,Nat.sub_zero]
     ·cases h
   | false=>
     rw[hle,cond_false]at h
     have hle':¬ ln+n≤c:=by intro hh;rw[← Nat.ble_eq,hle]at hh;cases hh
     split at h
     ·rename_i old ho
      have h':=Option.some.inj h
      obtain ⟨m',w',v,f1,f2,f3⟩:=fresh old c rfl hle' ho (fre1 (congrArg (fun z:AV × St=>z.2.nx) h').symm)
      rw[h']at f2 f3
      exact ⟨m',w',v,f1,f2,f3⟩
     ·cases h
  ·split at h
   ·rename_i t0 cs fz ex old hlk ho
    cases hb3:((Nat.beq t0 e && Nat.ble g id) && Nat.ble fz (off+ln*i.size))with
    | false=>rw[hb3]at h;cases h
    | true=>
    rw[hb3,cond_true]at h
    rw[Bool.and_eq_true,Bool.and_eq_true,Nat.beq_eq,Nat.ble_eq,Nat.ble_eq]at hb3
    obtain ⟨⟨rfl,d1⟩,d2⟩:=hb3
    obtain ⟨rfl,rfl⟩:=Prod.mk.inj (Option.some.inj h)
    have hm:m S.nx=none:=fre1 rfl
    simp only[Option.getD_none]at g1 g3 hsv
    by_cases hle:ln+n≤(L.e - off) / i.size
    ·obtain ⟨olds,o1,o2,o3⟩:=afst_ok (P:=P) hR ⟨ln,rfl,Nat.le_refl _⟩ ho hs
     have hoc:∀ i' v,olds[i']?=some v→∀ vs,cvs m cs=some vs→vs[off+i']?=some v:=by
      intro i' v hv vs hvs
      unfold afst at ho
      have hlk':S.lk id=some (.cells t0 cs fz ex):=hlk
      simp only[hlk']at ho
      cases hb4:(Nat.beq i.size i.size && Nat.beq (len (tke (ln*i.size) (drp off cs))) (ln*i.size))with
      | false=>rw[hb4]at ho;cases ho
      | true=>
        rw[hb4,cond_true]at ho
        obtain rfl:=Option.some.inj ho
        rw[tke_eq,drp_eq]at o1
        have:=cvs_take (ln*i.size) (cvs_drop off hvs)
        obtain rfl:=Option.some.inj (o1.symm.trans this)
        rw[List.getElem?_take]at hv
        split at hv
        ·rwa [List.getElem?_drop]at hv
        ·cases hv
     obtain ⟨w',q1,q2,q3⟩:=move_ok (P:=P) hR b5 hm hL hlk d1 d2 hcn hsrc.newsLen hsrc.one o1 o3 hoc g2 (by omega) hle g3
     have hc0:(L.e - off) / i.size≠0:=by omega
     rw[if_neg hc0,Nat.sub_zero]at hsv
     refine ⟨_,w',_,?_,q2,q3⟩
     rw[← hsv]
     exact app_in ht hi hsrc _ ln _ hle (fun a ea=>by
      obtain rfl:=Option.some.inj ea
      rw[addr_add];exact q1) (fun ea=>by cases ea) ty
    ·obtain ⟨m',w',v,f1,f2,f3⟩:=fresh old _ rfl hle ho hm
     refine ⟨m',w',v,f1,f2,?_⟩
     have hne:S.nx≠id:=fun e=>by rw[e,hL]at hm;cases hm
     have sub:∀ j x,((S.h.put none id).put (some (.cells t0 (old ++ new) (fz - off) false)) S.nx).get j=some x→(j=S.nx∧x=.cells t0 (old ++ new) (fz - off) false)∨(j≠S.nx∧j≠id∧S.lk j=some x):=by
      intro j x hj
      rcases T.get_put _ _ _ _ hj with ⟨rfl,rfl⟩|⟨k1,k2⟩
      ·exact .inl ⟨rfl,rfl⟩
      ·by_cases k3:j=id
       ·subst k3;rw[T.get_put_none]at k2;cases k2
       ·rw[T.get_put_ne _ _ _ _ k3]at k2;exact .inr ⟨k1,k3,k2⟩
     have low:∀ j x,((S.h.put none id).put (some (.cells t0 (old ++ new) (fz - off) false)) S.nx).get j=some x→∃ y,(afresh S t0 i.size (ln+n) (old ++ new)).2.lk j=some y∧(Holds m' w' j y→Holds m' w' j x):=by
      intro j x hj
      have hlk1:∀ k,(afresh S t0 i.size (ln+n) (old ++ new)).2.lk k=(S.h.put (some (.cells t0 (old ++ new) 0 false)) S.nx).get k:=fun _=>rfl
      rcases sub j x hj with ⟨rfl,rfl⟩|⟨k1,k2,k3⟩
      ·cases hk:(S.h.put (some (.cells t0 (old ++ new) 0 false)) S.nx).get S.nx with
       | none=>exact absurd hk (T.lives_put _ _ _ _ _ _ hj)
       | some y=>
         have:=T.get_put_self _ _ _ hk
         subst this
         exact ⟨_,(hlk1 _).trans hk,fun ⟨L,c,fr,vs,a1,a2,a3,a4,a5,a6,a7,a8⟩=>⟨L,c,fr,vs,a1,a2,a3,a4,a5,a6,fun i _ hi=>a7 i (Nat.zero_le _) hi,a8⟩⟩
      ·exact ⟨x,(hlk1 j).trans (by rw[T.get_put_ne _ _ _ _ k1];exact k3),fun h=>h⟩
     exact f3.weaken low (fun j x hj hx=>by
      rw[← hx];symm
      show ((S.h.put none id).put (some (.cells t0 (old ++ new) (fz - off) false)) S.nx).get j=(S.h.put (some (.cells t0 (old ++ new) 0 false)) S.nx).get j
      rw[T.get_put_ne _ _ _ _ (by omega),T.get_put_ne _ _ _ _ (by omega),T.get_put_ne _ _ _ _ (by omega)])
   ·cases h
 ·cases h
end
end Am
end
section
namespace Am
open Go
noncomputable section
variable {P:Program}
def acpy (P:Program) (g:Nat) (S:St) (ts:List TypeId) (d s:AV):Option (AV × St):=
 match ts with
 | []=>none
 | t :: _=>match und P t with
   | some (.slice e)=>match szo P e,alno d,alno s with
     | some es,some dn,some sn=>match afst S.lk es (Nat.min sn dn) s with
       | some l=>bif Nat.beq (Nat.min sn dn) 0 then (bif Nat.beq (len l) 0 then (match d with
        | .sl ..=>some (.i .i64 (.ofNat 0),S)
        | .nsl=>some (.i .i64 (.ofNat 0),S)
        | _=>none)else none)
        else match d with
         | .sl id off _ _ es' _=>bif Nat.beq es' es then (match asto g S id off l with
           | some S'=>some (.i .i64 (.ofNat (Nat.min sn dn)),S')
           | none=>none)else none
         | _=>none
       | none=>none
     | _,_,_=>none
   | _=>none
theorem acpy_ok {g:Nat}{m:Map}{S S':St}{w:World}(hR:R S.lk m w) {ts:List TypeId}{d s r:AV}{dv sv:Value}(h:acpy P g S ts d s=some (r,S')) (hd:cvo m d=some dv) (hs:cvo m s=some sv) (ty:TypeId) :
 ∃ w' v,(Builtin.copy_ ts.toArray ty #[dv,sv]).run P w=.ok v w'∧cvo m r=some v∧Step g m S.lk S.nx w m S'.lk S'.nx w':=by
 unfold acpy at h
 split at h
 ·cases h
 rename_i t rest
 split at h
 rotate_left
 ·cases h
 rename_i e ht
 split at h
 rotate_left
 ·cases h
 rename_i es dn sn hes hdn hsn
 split at h
 rotate_left
 ·cases h
 rename_i l hl
 obtain ⟨us,h1,h2,h3⟩:=afst_ok (P:=P) hR ⟨sn,hsn,Nat.min_le_left _ _⟩ hl hs
 have hln:=alno_ok (P:=P) hsn hs w
 cases hb:Nat.beq (Nat.min sn dn) 0 with
 | true=>
   rw[hb,cond_true]at h
   rw[Nat.beq_eq]at hb
   cases hb2:Nat.beq (len l) 0 with
   | false=>rw[hb2]at h;cases h
   | true=>
   rw[hb2,cond_true]at h
   rw[Nat.beq_eq,len_eq]at hb2
   have hus:us = []:=List.eq_nil_of_length_eq_zero (by rw[cvs_length h1,hb2])
   subst hus
   have hb':min sn dn=0:=hb
   rw[hb']at h2
   split at h
   ·rename_i id off n cap es' pre
    obtain ⟨rfl,rfl⟩:=Prod.mk.inj (Option.some.inj h)
    simp only[alno,Option.some.injEq]at hdn
    simp only[cvo,Option.bind_eq_some_iff,Option.ite_none_right_eq_some,Option.some.injEq]at hd
    obtain ⟨L,hL,⟨g1,g2,g3⟩,rfl⟩:=hd
    subst hdn
    refine ⟨w,_,?_,rfl,Step.refl hR⟩
    have h2':(Builtin.firstCells es (min sn n) sv).run P w=.ok #[] w:=by rw[hb'];exact h2
    simp[Builtin.copy_,run_und ht,hln,run_szo hes,h2',storeCells,goInt]
    simp only[Nat.min_def]at hb
    split at hb<;>omega
   ·obtain ⟨rfl,rfl⟩:=Prod.mk.inj (Option.some.inj h)
    simp only[alno,Option.some.injEq]at hdn
    simp only[cvo,Option.some.injEq]at hd
    subst hd hdn
    refine ⟨w,_,?_,rfl,Step.refl hR⟩
    simp[Builtin.copy_,run_und ht,hln,run_szo hes,h2,goInt]
   ·cases h
 | false=>
   rw[hb,cond_false]at h
   rw[Bool.eq_false_iff,Ne,Nat.beq_eq]at hb
   split at h
   ·rename_i id off n cap es' pre
    cases hb2:Nat.beq es' es with
    | false=>rw[hb2]at h;cases h
    | true=>
    rw[hb2,cond_true]at h
    rw[Nat.beq_eq]at hb2;subst hb2
    split at h
    ·rename_i S1 hS1
     obtain ⟨rfl,rfl⟩:=Prod.mk.inj (Option.some.inj h)
     simp only[alno,Option.some.injEq]at hdn
     simp only[cvo,Option.bind_eq_some_iff,Option.ite_none_right_eq_some,Option.some.injEq]at hd
     obtain ⟨L,hL,⟨g1,g2,g3⟩,rfl⟩:=hd
     subst hdn
     have hc0:cap.getD ((L.e - off) / es')≠0:=by have:=Nat.min_le_right sn n;simp only[Nat.min_def]at hb this;omega
     obtain ⟨w',q1,q2⟩:=asto_ok (P:=P) hR hS1 h1 hL
     refine ⟨w',_,?_,rfl,q2⟩
     rw[if_neg hc0,Nat.sub_zero]
     simp[Builtin.copy_,run_und ht,hln,run_szo hes,h2,goInt,q1]
    ·cases h
   ·cases h
def asb1:AV→AV→Bool
 | .b x,.b y=>x == y
 | .i k a,.i k' b=>keq k k' && ieq a b
 | .s n x,.s k y=>Nat.beq n k && Nat.beq x y
 | _,_=>false
def asbs:List AV→List AV→Bool
 | [],[]=>true
 | a :: l,b :: k=>asb1 a b && asbs l k
 | _,_=>false
def asb:AV→AV→Bool
 | .ag l,.ag k=>asbs l k
 | a,b=>asb1 a b
theorem asb1_ok {m:Map}{a b:AV}{u v:Value}(h:asb1 a b=true) (ha:cvo m a=some u) (hb:cvo m b=some v) (n:Nat):Instr.sameBits n u v=true:=by
 unfold asb1 at h
 split at h
 all_goals try simp only[cvo,Option.ite_none_right_eq_some,Option.some.injEq]at ha hb
 ·subst ha hb;cases n<;>simpa [Instr.sameBits]using h
 ·subst ha hb
  rw[Bool.and_eq_true]at h
  have:=keq_eq h.1;subst this
  rw[ieq_eq]at h
  cases n<;>simpa [Instr.sameBits]using h.2
 ·obtain ⟨_,rfl⟩:=ha
  obtain ⟨_,rfl⟩:=hb
  rw[Bool.and_eq_true,Nat.beq_eq,Nat.beq_eq]at h
  obtain ⟨rfl,rfl⟩:=h
  cases n<;>simp[Instr.sameBits,beq_toListBytes]
 ·cases h
theorem asbs_ok {m:Map}(n:Nat):∀ {l k:List AV}{us vs:List Value},asbs l k=true→cvs m l=some us→cvs m k=some vs→us.length=vs.length∧((us.zip vs).all fun (x,y)=>Instr.sameBits n x y)=true
 | [],[],us,vs,_,hl,hk=>by simp[cvs]at hl hk;subst hl hk;exact ⟨rfl,rfl⟩
 | a :: l,b :: k,us,vs,h,hl,hk=>by
   obtain ⟨u,us',h1,h2,rfl⟩:=cvs_cons.1 hl
   obtain ⟨v,vs',h3,h4,rfl⟩:=cvs_cons.1 hk
   simp only[asbs,Bool.and_eq_true]at h
   obtain ⟨e1,e2⟩:=asbs_ok n h.2 h2 h4
   refine ⟨by simp[e1],?_⟩
   simp only[List.zip_cons_cons,List.all_cons,Bool.and_eq_true]
   exact ⟨asb1_ok h.1 h1 h3 n,e2⟩
 | [],_ :: _,_,_,h,_,_=>by cases h
 | _ :: _,[],_,_,h,_,_=>by cases h
theorem asb_ok {m:Map}{a b:AV}{u v:Value}(h:asb a b=true) (ha:cvo m a=some u) (hb:cvo m b=some v) (w:World):(Instr.keyThatStays u v).run P w=.ok v w:=by
 have:Instr.sameBits 10000 u v=true:=by
  unfold asb at h
  split at h
  ·simp only[cvo,Option.map_eq_some_iff]at ha hb
   obtain ⟨us,h1,rfl⟩:=ha
   obtain ⟨vs,h2,rfl⟩:=hb
   obtain ⟨e1,e2⟩:=asbs_ok 9999 h h1 h2
   simp only[Instr.sameBits,List.size_toArray,e1,beq_self_eq_true,Bool.true_and]
   exact e2
  ·exact asb1_ok h ha hb _
 simp[Instr.keyThatStays,this]
def lset {α:Type}(x:α) (l:List α):Nat→List α:=List.rec (fun _=>[]) (fun a l ih n=>Nat.rec (x :: l) (fun k _=>a :: ih k) n) l
theorem lset_eq {α:Type}(x:α):∀ (l:List α) (n:Nat),lset x l n=l.set n x
 | [],n=>by simp[lset]
 | a :: l,0=>rfl
 | a :: l,n+1=>by rw[List.set_cons_succ,← lset_eq x l n];rfl
theorem f2_set {α β:Type}{r:α→β→Prop}{a:α}{b:β}(h:r a b):∀ {l:List α}{k:List β}(n:Nat),F2 r l k→F2 r (l.set n a) (k.set n b)
 | _,_,n,.nil=>by simp;exact .nil
 | _,_,0,.cons h1 h2=>.cons h h2
 | _,_,n+1,.cons h1 h2=>.cons h1 (f2_set h n h2)
theorem f2_append {α β:Type}{r:α→β→Prop}{a:α}{b:β}(h:r a b):∀ {l:List α}{k:List β},F2 r l k→F2 r (l ++ [a]) (k ++ [b])
 | _,_,.nil=>.cons h .nil
 | _,_,.cons h1 h2=>.cons h1 (f2_append h h2)
theorem f2_get {α β:Type}{r:α→β→Prop}:∀ {l:List α}{k:List β}{n:Nat}{a:α},F2 r l k→l[n]?=some a→∃ b,k[n]?=some b∧r a b
 | _,_,n,a,.nil,h=>by simp at h
 | _,_,0,a,.cons h1 h2,h=>by simp at h;subst h;exact ⟨_,rfl,h1⟩
 | _,_,n+1,a,.cons h1 h2,h=>by
   rw[List.getElem?_cons_succ]at h
   obtain ⟨b,h3,h4⟩:=f2_get h2 h
   exact ⟨b,by rw[List.getElem?_cons_succ];exact h3,h4⟩
theorem only_obj {w:World}{b:Nat}{o o':Obj}(h:w.heap[b]?=some o):Only w { w with heap:=w.heap.setIfInBounds b o' } b∧({ w with heap:=w.heap.setIfInBounds b o' }:World).heap[b]?=some o':=by
 obtain ⟨h1,h2⟩:=MapKept.heap_set (w:=w) (o':=o') h
 exact ⟨⟨rfl,rfl,rfl,by simp,h2⟩,h1⟩
theorem map_put {g:Nat}{m:Map}{S:St}{w:World}(hR:R S.lk m w) {id:Nat}{es es2:List (AV × AV × Nat)}{ck ck2:Nat}{es2':Array MapEntry}{L:Loc}(hg:g≤id) (hlk:S.h.get id=some (.map es ck)) (hL:m id=some L) (hE:F2 (EntOk m) es2 es2'.toList) :
 Step g m S.lk S.nx w m ((S.h.put (some (.map es2 ck2)) id).get) S.nx { w with heap:=w.heap.setIfInBounds L.b (.map es2' ck2) }:=by
 obtain ⟨L',es',h1,h2,h3⟩:=hR.holds _ _ hlk
 obtain rfl:=Option.some.inj (hL.symm.trans h1)
 obtain ⟨f1,f2⟩:=only_obj (o':=.map es2' ck2) h2
 exact Step.put (blk:=.map es2 ck2) hR hg hlk hL f1.block f1.size rfl rfl rfl (fun j b hj=>T.get_put _ _ _ _ hj) (fun j hj=>T.get_put_ne _ _ _ _ hj) ⟨L,es2',hL,f2,hE⟩
def amup (P:Program) (g:Nat) (S:St) (t:TypeId) (a k v:AV):Option St:=
 match und P t,a with
 | some (.map kt _),.mp id=>match und P kt,S.h.get id with
   | some d,some (.map es ck)=>bif ack P d k && Nat.ble g id then (match afnd P kt d k es 0 with
     | some (some (j,_))=>match nth es j with
       | some e=>bif asb e.1 k then some ⟨S.h.put (some (.map (lset (k,v,e.2.2) es j) ck)) id,S.nx⟩else none
       | none=>none
     | some none=>some ⟨S.h.put (some (.map (es ++ [(k,v,ck)]) (Nat.succ ck))) id,S.nx⟩
     | none=>none)else none
   | _,_=>none
 | _,_=>none
theorem modify_set (es:Array MapEntry) (j:Nat) (f:MapEntry→MapEntry) {e:MapEntry}(h:es[j]?=some e):(es.modify j f).toList=es.toList.set j (f e):=by
 apply List.ext_getElem?
 intro i
 have hlt:=(Array.getElem?_eq_some_iff.1 h).1
 rw[Array.getElem?_toList,Array.getElem?_modify,List.getElem?_set]
 by_cases e1:j=i
 ·subst e1;simp[hlt,(Array.getElem?_eq_some_iff.1 h).2]
 ·simp[e1]
theorem amup_ok {g:Nat}{m:Map}{S S':St}{w:World}(hR:R S.lk m w) {t:TypeId}{a k v:AV}{av kv vv:Value}(h:amup P g S t a k v=some S') (ha:cvo m a=some av) (hk:cvo m k=some kv) (hv:cvo m v=some vv) :
 ∃ w',(Instr.mapUpdate t av kv vv).run P w=.ok () w'∧Step g m S.lk S.nx w m S'.lk S'.nx w':=by
 unfold amup at h
 split at h
 rotate_left
 ·cases h
 rename_i kt et id ht
 split at h
 rotate_left
 ·cases h
 rename_i d es ck hd hlk
 cases hb:(ack P d k && Nat.ble g id)with
 | false=>rw[hb]at h;cases h
 | true=>
 rw[hb,cond_true]at h
 rw[Bool.and_eq_true,Nat.ble_eq]at hb
 obtain ⟨L,es',h1,h2,h3⟩:=hR.holds _ _ hlk
 simp only[cvo,h1,Option.map_some,Option.some.injEq]at ha
 subst ha
 split at h
 ·rename_i j v0 hf
  obtain ⟨r',f0,f⟩:=fnd_ok hd hk w h3 hf
  rcases f with ⟨hh,_⟩|⟨j',a',v',hh,rfl,_⟩
  ·cases hh
  obtain ⟨rfl,rfl⟩:=Prod.mk.inj (Option.some.inj hh)
  split at h
  ·rename_i e he
   cases hs:asb e.1 k with
   | false=>rw[hs]at h;cases h
   | true=>
   rw[hs,cond_true]at h
   obtain rfl:=Option.some.inj h
   rw[nth_eq]at he
   obtain ⟨e',he',hE⟩:=f2_get h3 he
   rw[Array.getElem?_toList]at he'
   refine ⟨_,?_,map_put hR hb.2 hlk h1 (es2':=es'.modify j (fun e=>{ e with key:=kv,val:=vv })) ?_⟩
   ·have:=asb_ok (P:=P) hs hE.1 hk w
    simp[Instr.mapUpdate,run_und ht,MapKept.run_getObj_map h2,checkKey_ok hd hb.1 hk,f0,he',this,MapKept.run_setObj_map _ h2]
   ·rw[lset_eq,modify_set _ _ _ he']
    exact f2_set ⟨hk,hv,hE.2.2⟩ j h3
  ·cases h
 ·rename_i hf
  obtain ⟨r',f0,f⟩:=fnd_ok hd hk w h3 hf
  rcases f with ⟨_,rfl⟩|⟨_,_,_,hh,_⟩
  ·obtain rfl:=Option.some.inj h
   refine ⟨_,?_,map_put hR hb.2 hlk h1 (es2':=es'.push { key:=kv,val:=vv,born:=ck }) ?_⟩
   ·simp[Instr.mapUpdate,run_und ht,MapKept.run_getObj_map h2,checkKey_ok hd hb.1 hk,f0,MapKept.run_setObj_map _ h2]
   ·rw[Array.toList_push]
    exact f2_append ⟨hk,hv,rfl⟩ h3
  ·cases hh
 ·cases h
def amen (P:Program) (g:Nat) (S:St) (t:TypeId) (a k:AV):Option (AV × St):=
 match und P t,a with
 | some (.map kt et),.mp id=>match und P kt,S.h.get id with
   | some d,some (.map es ck)=>bif ack P d k && Nat.ble g id then (match afnd P kt d k es 0 with
     | some (some (j,v0))=>match nth es j with
       | some e=>bif asb e.1 k then some (.tp [v0,.i .i64 (.ofNat e.2.2)],⟨S.h.put (some (.map (lset (k,v0,e.2.2) es j) ck)) id,S.nx⟩)else none
       | none=>none
     | some none=>match zero P et with
       | some z=>some (.tp [z,.i .i64 (.ofNat ck)],⟨S.h.put (some (.map (es ++ [(k,z,ck)]) (Nat.succ ck))) id,S.nx⟩)
       | none=>none
     | none=>none)else none
   | _,_=>none
 | _,_=>none
theorem amen_ok {g:Nat}{m:Map}{S S':St}{w:World}(hR:R S.lk m w) {t:TypeId}{a k r:AV}{av kv:Value}(h:amen P g S t a k=some (r,S')) (ha:cvo m a=some av) (hk:cvo m k=some kv) :
 ∃ w' v,(Instr.mapEntry t av kv).run P w=.ok v w'∧cvo m r=some v∧Step g m S.lk S.nx w m S'.lk S'.nx w':=by
 unfold amen at h
 split at h
 rotate_left
 ·cases h
 rename_i kt et id ht
 split at h
 rotate_left
 ·cases h
 rename_i d es ck hd hlk
 cases hb:(ack P d k && Nat.ble g id)with
 | false=>rw[hb]at h;cases h
 | true=>
 rw[hb,cond_true]at h
 rw[Bool.and_eq_true,Nat.ble_eq]at hb
 obtain ⟨L,es',h1,h2,h3⟩:=hR.holds _ _ hlk
 simp only[cvo,h1,Option.map_some,Option.some.injEq]at ha
 subst ha
 split at h
 ·rename_i j v0 hf
  obtain ⟨r',f0,f⟩:=fnd_ok hd hk w h3 hf
  rcases f with ⟨hh,_⟩|⟨j',a',v',hh,rfl,hv',e0,q1,q2⟩
  ·cases hh
  obtain ⟨rfl,rfl⟩:=Prod.mk.inj (Option.some.inj hh)
  split at h
  ·rename_i e he
   cases hs:asb e.1 k with
   | false=>rw[hs]at h;cases h
   | true=>
   rw[hs,cond_true]at h
   obtain ⟨rfl,rfl⟩:=Prod.mk.inj (Option.some.inj h)
   rw[nth_eq]at he
   obtain rfl:=Option.some.inj (he.symm.trans q1)
   obtain ⟨e',he',hE⟩:=f2_get h3 he
   rw[Array.getElem?_toList]at he'
   have hval:cvo m v0=some e'.val:=q2▸hE.2.1
   refine ⟨_,.tuple #[v',goInt (e'.born:Int)],?_,?_,map_put hR hb.2 hlk h1 (es2':=es'.modify j (fun e=>{ e with key:=kv })) ?_⟩
   ·have:=asb_ok (P:=P) hs hE.1 hk w
    simp[Instr.mapEntry,run_und ht,MapKept.run_getObj_map h2,checkKey_ok hd hb.1 hk,f0,he',this,MapKept.run_setObj_map _ h2]
   ·have e3:(Int.ofNat e.2.2)=(e'.born:Int):=by rw[hE.2.2];rfl
    simp[cvo,cvs,hv',goInt,hE.2.2]
   ·rw[lset_eq,modify_set _ _ _ he']
    exact f2_set ⟨hk,hval,hE.2.2⟩ j h3
  ·cases h
 ·rename_i hf
  obtain ⟨r',f0,f⟩:=fnd_ok hd hk w h3 hf
  rcases f with ⟨_,rfl⟩|⟨_,_,_,hh,_⟩
  ·split at h
   ·rename_i z hz
    obtain ⟨rfl,rfl⟩:=Prod.mk.inj (Option.some.inj h)
    obtain ⟨zv,hzv,hrz⟩:=zero_ok hz m
    refine ⟨_,.tuple #[zv,goInt (ck:Int)],?_,?_,map_put hR hb.2 hlk h1 (es2':=es'.push { key:=kv,val:=zv,born:=ck }) ?_⟩
    ·simp[Instr.mapEntry,run_und ht,MapKept.run_getObj_map h2,checkKey_ok hd hb.1 hk,f0,MapKept.run_setObj_map _ h2,hrz]
    ·simp[cvo,cvs,hzv,goInt]
    ·rw[Array.toList_push]
     exact f2_append ⟨hk,hzv,rfl⟩ h3
   ·cases h
  ·cases hh
 ·cases h
def aborn (n:Nat):List (AV × AV × Nat)→Nat→Option Nat
 | [],_=>none
 | e :: es,i=>bif Nat.beq e.2.2 n then some i else aborn n es (Nat.succ i)
theorem aborn_ok {m:Map}(n:Nat):∀ {es:List (AV × AV × Nat)}{es':List MapEntry}{i j:Nat},F2 (EntOk m) es es'→aborn n es i=some j→i≤j∧es'.findIdx? (fun e=>(e.born:Int) == (n:Int))=some (j - i)∧∃ e,es[j - i]?=some e
 | _,_,i,j,.nil,h=>by simp[aborn]at h
 | e :: es,e' :: es',i,j,.cons h1 h2,h=>by
   simp only[aborn]at h
   cases hb:Nat.beq e.2.2 n with
   | true=>
     rw[hb,cond_true]at h
     rw[Nat.beq_eq]at hb
     obtain rfl:=Option.some.inj h
     refine ⟨Nat.le_refl _,?_,e,by simp⟩
     rw[List.findIdx?_cons]
     simp[h1.2.2,hb]
   | false=>
     rw[hb,cond_false]at h
     rw[Bool.eq_false_iff,Ne,Nat.beq_eq]at hb
     obtain ⟨q1,q2,e0,q3⟩:=aborn_ok n h2 h
     refine ⟨by omega,?_,e0,?_⟩
     ·rw[List.findIdx?_cons]
      have:((e'.born:Int) == (n:Int))=false:=by
       rw[h1.2.2,beq_eq_false_iff_ne];intro h;exact hb (by omega)
      rw[this,q2]
      simp;omega
     ·rw[show j - i=(j - (i+1))+1 by omega,List.getElem?_cons_succ];exact q3
def aest (g:Nat) (S:St) (a st v:AV):Option St:=
 match a,st with
 | .mp id,.i _ (.ofNat n)=>match S.h.get id with
   | some (.map es ck)=>bif Nat.ble g id then (match aborn n es 0 with
     | some j=>match nth es j with
       | some e=>some ⟨S.h.put (some (.map (lset (e.1,v,e.2.2) es j) ck)) id,S.nx⟩
       | none=>none
     | none=>none)else none
   | _=>none
 | _,_=>none
theorem aest_ok {g:Nat}{m:Map}{S S':St}{w:World}(hR:R S.lk m w) {t:TypeId}{a st v:AV}{av sv vv:Value}(h:aest g S a st v=some S') (ha:cvo m a=some av) (hs:cvo m st=some sv) (hv:cvo m v=some vv) :
 ∃ w',(Instr.entryStore t av sv vv).run P w=.ok () w'∧Step g m S.lk S.nx w m S'.lk S'.nx w':=by
 unfold aest at h
 split at h
 rotate_left
 ·cases h
 rename_i id k n
 split at h
 rotate_left
 ·cases h
 rename_i es ck hlk
 cases hb:Nat.ble g id with
 | false=>rw[hb]at h;cases h
 | true=>
 rw[hb,cond_true]at h
 rw[Nat.ble_eq]at hb
 obtain ⟨L,es',h1,h2,h3⟩:=hR.holds _ _ hlk
 simp only[cvo,h1,Option.map_some,Option.some.injEq]at ha hs
 subst ha hs
 split at h
 ·rename_i j hj
  obtain ⟨_,q2,_⟩:=aborn_ok n h3 hj
  split at h
  ·rename_i e he
   obtain rfl:=Option.some.inj h
   rw[nth_eq]at he
   obtain ⟨e',he',hE⟩:=f2_get h3 he
   rw[Array.getElem?_toList]at he'
   refine ⟨_,?_,map_put hR hb hlk h1 (es2':=es'.modify j (fun e=>{ e with val:=vv })) ?_⟩
   ·have q3:es'.findIdx? (fun e=>(e.born:Int) == (n:Int))=some j:=by
     obtain ⟨l⟩:=es';rw[List.findIdx?_toArray];simpa using q2
    simp[Instr.entryStore,MapKept.run_getObj_map h2,asInt,asIntOf,q3,MapKept.run_setObj_map _ h2]
   ·rw[lset_eq,modify_set _ _ _ he']
    exact f2_set ⟨hE.1,hv,hE.2.2⟩ j h3
  ·cases h
 ·cases h
end
end Am
end
section
namespace Am
open Go
noncomputable section
variable {P:Program}
theorem Step.drop {g:Nat}{m:Map}{lk lk':Lk}{nx id:Nat}{w w':World}{blk0:Blk}{L:Loc}(hR:R lk m w) (hg:g≤id) (h0:lk id=some blk0) (hL:m id=some L)
 (hw:∀ k,k≠L.b→w'.heap[k]?=w.heap[k]?) (hs:w'.heap.size=w.heap.size) (e1:w'.os=w.os) (e2:w'.tape=w.tape) (e3:w'.output=w.output)
 (hlk:∀ j b,lk' j=some b→j≠id∧lk j=some b) (hlg:∀ j,j≠id→lk' j=lk j):Step g m lk nx w m lk' nx w':=by
 refine ⟨fun _ _ h=>h,fun _ _ h=>.inl h,Nat.le_refl _,⟨?_,?_⟩,e1,e2,e3,by omega,?_,?_,fun j b hj hb=>by rw[← hlg j (by omega)];exact hb,fun j b hj=>.inl ⟨b,(hlk j b hj).2⟩⟩
 ·intro j b hj
  obtain ⟨hne,hj'⟩:=hlk j b hj
  exact (hR.holds j b hj').mono (fun _ _ h=>h) (fun K hK=>hw _ fun e=>hne (hR.inj j id b blk0 K L hj' h0 hK hL e))
 ·intro j j' b b' K K' h1 h2 h3 h4 h5
  exact hR.inj j j' b b' K K' (hlk j b h1).2 (hlk j' b' h2).2 h3 h4 h5
 ·intro k hk hn
  exact hw k fun e=>hn id blk0 L hg h0 hL e.symm
 ·intro j b K h1 h2 h3
  exact .inr ⟨j,b,K,h1,(hlk j b h2).2,h3,rfl⟩
def astb (P:Program) (g:Nat) (S:St) (s d:TypeId) (a:AV):Option (AV × St):=
 match und P s,und P d,a with
 | some _,some (.slice e),.s n x=>match und P e with
   | some (.int .u8)=>bif Nat.ble g S.nx then some (.sl S.nx 0 n none 1 0,⟨S.h.put (some (.cells e (abyt n x) 0 false)) S.nx,Nat.succ S.nx⟩)else none
   | _=>none
 | _,_,_=>none
theorem astb_ok {g:Nat}{m:Map}{S S':St}{w:World}(hR:R S.lk m w) (hf:Fre m S.nx S'.nx) {s d:TypeId}{a r:AV}{av:Value}(h:astb P g S s d a=some (r,S')) (ha:cvo m a=some av) :
 ∃ m' w' v,(convert s d av).run P w=.ok v w'∧cvo m' r=some v∧Step g m S.lk S.nx w m' S'.lk S'.nx w':=by
 unfold astb at h
 split at h
 rotate_left
 ·cases h
 rename_i e n x hs hd
 split at h
 rotate_left
 ·cases h
 rename_i he
 cases hb:Nat.ble g S.nx with
 | false=>rw[hb]at h;cases h
 | true=>
 rw[hb,cond_true]at h
 rw[Nat.ble_eq]at hb
 obtain ⟨rfl,rfl⟩:=Prod.mk.inj (Option.some.inj h)
 have hm:m S.nx=none:=hf S.nx (Nat.le_refl _) (Nat.lt_succ_self _)
 simp only[cvo,Option.ite_none_right_eq_some,Option.some.injEq]at ha
 obtain ⟨_,rfl⟩:=ha
 obtain ⟨cap,hcap⟩:∃ cap,cap=Question.cut (.appendCap n 0 e) (w.tape w.drawn (.appendCap n 0 e)):=⟨_,rfl⟩
 have hge:n≤cap:=by rw[hcap];simp only[Question.cut];omega
 obtain ⟨c,hc⟩:∃ c:Array Value,c=((unp n x).map fun b=>Value.int .u8 b.toNat).toArray ++ Array.replicate (cap - n) (.int .u8 0):=⟨_,rfl⟩
 have hcs:c.size=cap:=by rw[hc];simp[unp_length];omega
 have hsz:(ByteArray.mk (unp n x).toArray).size=n:=by simp[ByteArray.size,unp_length]
 have helems:((ByteArray.mk (unp n x).toArray).data.map fun b=>Value.int .u8 b.toNat)=((unp n x).map fun b=>Value.int .u8 b.toNat).toArray:=by simp
 have hrun:(convert s d (.string ⟨(unp n x).toArray⟩)).run P w=.ok (.slice (some ⟨w.heap.size,0,none⟩) n cap) ((w.drew.alloc (.cells c e)).freeze ⟨w.heap.size,cap,none⟩ 1):=by
  simp only[convert,Sem.run_bind,run_und hs,run_und hd,run_und he,Result.andThen_ok,Conv.stringToBytes,run_choose,Question.forced,Bool.false_eq_true,if_false,hsz,← hcap,helems,newRow,run_newObj,Sem.run_pure,← hc]
  have hsh:({ heap:=w.heap.push (.cells c e),tape:=w.tape,drawn:=w.drawn+1,os:=w.os,output:=w.output }:World).shape? w.heap.size=some (e,cap):=by
   simp[World.shape?,hcs]
  simp only[markStringish,Sem.run_bind,run_shape,hsh,Result.andThen_ok,run_freeze,Sem.run_pure]
  rfl
 have hheap:((w.drew.alloc (.cells c e)).freeze ⟨w.heap.size,cap,none⟩ 1).heap=w.heap.push (.cells c e (cap,cap+1)):=by
  simp only[World.freeze,World.alloc,World.drew]
  rw[if_neg (by omega)]
  apply Array.ext_getElem?
  intro k
  simp only[Array.getElem?_modify,Array.getElem?_push]
  by_cases e1:w.heap.size=k
  ·subst e1;simp
  ·rw[if_neg e1,if_neg (fun h=>e1 h.symm),if_neg (fun h=>e1 h.symm)]
 have hcv:=abyt_ok m n x
 have hext:Ext m (mset m S.nx ⟨w.heap.size,0,cap⟩):=mset_ext hm
 refine ⟨mset m S.nx ⟨w.heap.size,0,cap⟩,_,_,hrun,?_,?_⟩
 ·simp only[cvo,mset_self,Option.bind_some,Option.getD_none,Nat.sub_zero,Nat.div_one]
  rw[if_pos ⟨hge,by omega,by omega⟩]
  by_cases e0:cap=0<;>simp[e0]
 ·refine Step.new (blk:=.cells e (abyt n x) 0 false) hR hb hm hheap ?_ ?_ ?_ (fun j b hj=>T.get_put _ _ _ _ hj) (fun j hj=>T.get_put_ne _ _ _ _ hj) ?_
  ·rfl
  ·rfl
  ·rfl
  ·refine ⟨_,c,(cap,cap+1),_,mset_self _ _ _,by rw[hheap];simp,by simp[hcs],?_,cvs_mono hext _ hcv,fun i v hv=>?_,fun i _ hi hh=>?_,fun h=>by cases h⟩
   ·rw[← cvs_length hcv];simp[unp_length];exact hge
   ·have hlt:i<((unp n x).map fun b=>Value.int .u8 b.toNat).length:=(List.getElem?_eq_some_iff.1 hv).1
    simp only[Nat.zero_add]
    rw[hc,Array.getElem?_append_left (by simpa using hlt)]
    simpa using hv
   ·simp only at hi hh;omega
def apkb:List AV→Option Nat
 | []=>some 0
 | .i .u8 (.ofNat b) :: l=>bif Nat.blt b 256 then (match apkb l with
   | some x=>some (b+256*x)
   | none=>none)else none
 | _=>none
theorem apkb_ok {m:Map}:∀ {l:List AV}{vs:List Value}{x:Nat},apkb l=some x→cvs m l=some vs→x<256 ^ l.length∧vs=(unp l.length x).map (fun b=>Value.int .u8 b.toNat)
 | [],vs,x,h,hl=>by simp[apkb]at h;simp[cvs]at hl;subst h hl;exact ⟨by simp,rfl⟩
 | a :: l,vs,x,h,hl=>by
   obtain ⟨v,vs',h1,h2,rfl⟩:=cvs_cons.1 hl
   unfold apkb at h
   split at h
   ·rename_i heq;cases heq
   ·rename_i b l' heq
    obtain ⟨rfl,rfl⟩:=List.cons.inj heq
    cases hb:Nat.blt b 256 with
    | false=>rw[hb]at h;cases h
    | true=>
    rw[hb,cond_true]at h
    rw[blt_iff]at hb
    split at h
    ·rename_i y hy
     obtain rfl:=Option.some.inj h
     obtain ⟨f1,f2⟩:=apkb_ok hy h2
     simp only[cvo,Option.some.injEq]at h1
     subst h1
     have e1:(b+256*y) % 256=b:=by omega
     have e2:(b+256*y) / 256=y:=by omega
     refine ⟨by simp only[List.length_cons,Nat.pow_succ];omega,?_⟩
     simp only[List.length_cons,unp,List.map_cons,e1,e2,← f2]
     congr 2
     simp[UInt8.toNat_ofNat'];omega
    ·cases h
   ·cases h
theorem fold_bytes:∀ (l:List UInt8) (r:ByteArray),(l.map fun b=>(b.toNat:Int)).foldl (fun r n=>r.push (UInt8.ofNat n.toNat)) r=r ++ ⟨l.toArray⟩
 | [],r=>by
   apply ByteArray.ext
   simp[ByteArray.data_append]
 | b :: l,r=>by
   simp only[List.map_cons,List.foldl_cons,Int.toNat_natCast,UInt8.ofNat_toNat]
   rw[fold_bytes l]
   apply ByteArray.ext
   simp[ByteArray.data_append,ByteArray.data_push]
def abts (P:Program) (lk:Lk) (s d:TypeId) (a:AV):Option AV:=
 match und P s,und P d,a with
 | some (.slice e),some .string,.nsl=>match und P e with
   | some (.int .u8)=>some (.s 0 0)
   | _=>none
 | some (.slice e),some .string,.sl id off n cap es pre=>match und P e,afst lk 1 n (.sl id off n cap es pre)with
   | some (.int .u8),some l=>match apkb l with
     | some x=>some (.s n x)
     | none=>none
   | _,_=>none
 | _,_,_=>none
theorem abts_ok {m:Map}{lk:Lk}{w:World}(hR:R lk m w) {s d:TypeId}{a r:AV}{v:Value}(h:abts P lk s d a=some r) (ha:cvo m a=some v) :
 ∃ z,cvo m r=some z∧(convert s d v).run P w=.ok z w:=by
 unfold abts at h
 split at h
 ·rename_i e hs hd
  split at h
  ·rename_i he
   obtain rfl:=Option.some.inj h
   simp only[cvo,Option.some.injEq]at ha;subst ha
   refine ⟨.string ⟨(unp 0 0).toArray⟩,by simp[cvo],?_⟩
   simp only[convert,Sem.run_bind,run_und hs,run_und hd,run_und he,Result.andThen_ok,Conv.bytesToString,Sem.run_pure]
   rfl
  ·cases h
 ·rename_i e id off n cap es pre hs hd
  split at h
  ·rename_i l he hl
   split at h
   ·rename_i x hx
    obtain rfl:=Option.some.inj h
    obtain ⟨us,h1,h2,h3⟩:=afst_ok (P:=P) hR ⟨n,rfl,Nat.le_refl _⟩ hl ha
    obtain ⟨g1,g2⟩:=apkb_ok hx h1
    have hlen:l.length=n:=by rw[← cvs_length h1,h3];omega
    rw[hlen]at g1 g2
    refine ⟨.string ⟨(unp n x).toArray⟩,by simp only[cvo];rw[if_pos g1],?_⟩
    simp only[cvo,Option.bind_eq_some_iff,Option.ite_none_right_eq_some,Option.some.injEq]at ha
    obtain ⟨L,hL,_,rfl⟩:=ha
    have hload:∀ (A:Addr) (c:Nat),(Builtin.firstCells 1 n (.slice (some A) n c)).run P w=.ok us.toArray w→(loadCells A n).run P w=.ok ((((unp n x).map fun b=>(b.toNat:Int))).map (Value.int .u8)).toArray w:=by
     intro A c hh
     have:(Builtin.firstCells 1 n (.slice (some A) n c))=loadCells A (n*1):=rfl
     rw[this,Nat.mul_one]at hh
     rw[hh,g2];simp
    have hr:=run_bytesToString w _ n (cap.getD ((L.e - off) / es)) _ (hload _ _ h2)
    simp only[convert,Sem.run_bind,run_und hs,run_und hd,run_und he,Result.andThen_ok]
    rw[hr,fold_bytes]
    congr 2
   ·cases h
  ·cases h
 ·cases h
end
end Am
end
section
namespace Am
open Go
noncomputable section
variable {P:Program}
def arng (P:Program) (g:Nat) (S:St) (t:TypeId) (a:AV):Option (AV × St):=
 match und P t,a with
 | some .string,.s n x=>bif Nat.ble g S.nx then some (.p S.nx 0,⟨S.h.put (some (.it n x 0)) S.nx,Nat.succ S.nx⟩)else none
 | _,_=>none
theorem arng_ok {g:Nat}{m:Map}{S S':St}{w:World}(hR:R S.lk m w) (hf:Fre m S.nx S'.nx) {t:TypeId}{a r:AV}{av:Value}(h:arng P g S t a=some (r,S')) (ha:cvo m a=some av) :
 ∃ m' w' v,(Instr.range t av).run P w=.ok v w'∧cvo m' r=some v∧Step g m S.lk S.nx w m' S'.lk S'.nx w':=by
 unfold arng at h
 split at h
 rotate_left
 ·cases h
 rename_i n x ht
 cases hb:Nat.ble g S.nx with
 | false=>rw[hb]at h;cases h
 | true=>
 rw[hb,cond_true]at h
 rw[Nat.ble_eq]at hb
 obtain ⟨rfl,rfl⟩:=Prod.mk.inj (Option.some.inj h)
 have hm:m S.nx=none:=hf S.nx (Nat.le_refl _) (Nat.lt_succ_self _)
 simp only[cvo,Option.ite_none_right_eq_some,Option.some.injEq]at ha
 obtain ⟨hx,rfl⟩:=ha
 refine ⟨mset m S.nx ⟨w.heap.size,0,0⟩,w.alloc (.stringIter ⟨(unp n x).toArray⟩ 0),.pointer (some ⟨w.heap.size,0,none⟩),?_,by simp[cvo,mset_self],?_⟩
 ·simp[Instr.range,run_und ht]
 ·exact Step.new (blk:=.it n x 0) hR hb hm rfl rfl rfl rfl (fun j b hj=>T.get_put _ _ _ _ hj) (fun j hj=>T.get_put_ne _ _ _ _ hj) ⟨_,mset_self _ _ _,(by show (w.heap.push _)[w.heap.size]?=_;simp),hx,rfl⟩
def anxt (g:Nat) (S:St) (a:AV):Option (AV × St):=
 match a with
 | .p id off=>match S.h.get id with
   | some (.it n x pos)=>bif Nat.beq off 0 && Nat.ble g id then
    (bif Nat.blt pos n then
     (bif Nat.blt (Nat.mod (Nat.shiftRight x (8*pos)) 256) 128 then
      some (.tp [.b true,.i .i64 (.ofNat pos),.i .i32 (.ofNat (Nat.mod (Nat.shiftRight x (8*pos)) 256))],⟨S.h.put (some (.it n x (Nat.succ pos))) id,S.nx⟩)else none)
    else some (.tp [.b false],S))else none
   | _=>none
 | _=>none
theorem anxt_ok {g:Nat}{m:Map}{S S':St}{w:World}(hR:R S.lk m w) {a r:AV}{av:Value}(h:anxt g S a=some (r,S')) (ha:cvo m a=some av) (ty:TypeId) :
 ∃ w' v,(Instr.next av true ty).run P w=.ok v w'∧cvo m r=some v∧Step g m S.lk S.nx w m S'.lk S'.nx w':=by
 unfold anxt at h
 split at h
 rotate_left
 ·cases h
 rename_i id off
 split at h
 rotate_left
 ·cases h
 rename_i n x pos hlk
 cases hb:(Nat.beq off 0 && Nat.ble g id)with
 | false=>rw[hb]at h;cases h
 | true=>
 rw[hb,cond_true]at h
 rw[Bool.and_eq_true,Nat.beq_eq,Nat.ble_eq]at hb
 obtain ⟨rfl,hg⟩:=hb
 obtain ⟨L,h1,h2,hx,h3⟩:=hR.holds _ _ hlk
 simp only[cvo,h1,Option.map_some,Option.some.injEq,h3]at ha
 subst ha
 have hobj:(getObj L.b).run P w=.ok (.stringIter ⟨(unp n x).toArray⟩ pos) w:=by
  simp only[getObj,Sem.run,h2]
 have hsz:(ByteArray.mk (unp n x).toArray).size=n:=by simp[ByteArray.size,unp_length]
 cases hp:Nat.blt pos n with
 | false=>
   rw[hp,cond_false]at h
   obtain ⟨rfl,rfl⟩:=Prod.mk.inj (Option.some.inj h)
   have hp':¬ pos<n:=by intro hh;rw[← blt_iff,hp]at hh;cases hh
   refine ⟨w,.tuple #[.bool false],?_,by simp[cvo,cvs],Step.refl hR⟩
   simp[Instr.next,hobj,hsz,hp']
 | true=>
   rw[hp,cond_true]at h
   rw[blt_iff]at hp
   cases hq:Nat.blt (Nat.mod (Nat.shiftRight x (8*pos)) 256) 128 with
   | false=>rw[hq]at h;cases h
   | true=>
   rw[hq,cond_true]at h
   rw[blt_iff]at hq
   obtain ⟨rfl,rfl⟩:=Prod.mk.inj (Option.some.inj h)
   have hget:((ByteArray.mk (unp n x).toArray)[pos]'(by rw[hsz];exact hp)).toNat=Nat.mod (Nat.shiftRight x (8*pos)) 256:=by
    have hg:=unp_get n x pos hp
    rw[List.getElem?_eq_some_iff]at hg
    obtain ⟨_,hg⟩:=hg
    have e:(ByteArray.mk (unp n x).toArray)[pos]'(by rw[hsz];exact hp)=(unp n x)[pos]:=rfl
    rw[e,hg]
    have:(x >>> (8*pos)) % 256<256:=Nat.mod_lt _ (by omega)
    simp[UInt8.toNat_ofNat']
    rfl
   have hdec:=decode_ascii (ByteArray.mk (unp n x).toArray) pos (by rw[hsz];exact hp) (by rw[hget];exact hq)
   rw[hget]at hdec
   have hset:∀ o,(setObj L.b o).run P w=.ok () { w with heap:=w.heap.setIfInBounds L.b o }:=by
    intro o;simp only[setObj,Sem.run,h2]
   obtain ⟨f1,f2⟩:=only_obj (o':=.stringIter ⟨(unp n x).toArray⟩ (pos+1)) h2
   refine ⟨_,.tuple #[.bool true,goInt (pos:Int),.int .i32 ((Nat.mod (Nat.shiftRight x (8*pos)) 256:Nat):Int)],?_,?_,Step.put (blk:=.it n x (Nat.succ pos)) hR hg hlk h1 f1.block f1.size rfl rfl rfl (fun j b hj=>T.get_put _ _ _ _ hj) (fun j hj=>T.get_put_ne _ _ _ _ hj) ⟨L,h1,f2,hx,h3⟩⟩
   ·simp[Instr.next,hobj,hsz,hp,hdec,hset]
   ·simp[cvo,cvs,goInt]
theorem run_loadBytes (w:World) (b:Nat):∀ (l:List UInt8) (o:Nat) (acc:ByteArray),(∀ i v,l[i]?=some v→w.cell? ⟨b,o+i,none⟩=some (.int .u8 (v.toNat:Int))) →
 (loadBytes ⟨b,o,none⟩ acc l.length).run P w=.ok (acc ++ ⟨l.toArray⟩) w
 | [],o,acc,h=>by
   simp only[loadBytes,List.length_nil,Sem.run_pure]
   congr 1
   apply ByteArray.ext;simp[ByteArray.data_append]
 | v :: l,o,acc,h=>by
   have h0:=h 0 v rfl
   rw[Nat.add_zero]at h0
   simp only[List.length_cons,loadBytes,Sem.run_bind,run_load,h0,Result.andThen_ok]
   rw[addr_add]
   have ih:=run_loadBytes w b l (o+1) (acc.push ((v.toNat:Int).toNat).toUInt8) (fun i u hu=>by
    have:=h (i+1) u (by rw[List.getElem?_cons_succ];exact hu)
    rw[show o+1+i=o+(i+1) by omega];exact this)
   rw[ih]
   congr 1
   apply ByteArray.ext
   simp[ByteArray.data_append,ByteArray.data_push]
def auns (P:Program) (g:Nat) (S:St) (ts:List TypeId) (a l:AV):Option (AV × St):=
 match a,l with
 | .p id off,.i _ (.ofNat n)=>match ts with
   | pt :: _=>match und P pt,S.h.get id with
     | some (.pointer e),some (.cells t cs _ _)=>bif ((Nat.beq (P.cellsOf t) 1 && Nat.beq (P.underlyingId t) (P.underlyingId e)) && (Nat.ble g id && Nat.beq (len (tke n (drp off cs))) n)) && (!(Nat.beq n 0) && Nat.ble n 1073741824)then
      (match apkb (tke n (drp off cs))with
      | some x=>some (.s n x,⟨S.h.put none id,S.nx⟩)
      | none=>none)else none
     | _,_=>none
   | []=>none
 | .np,.i _ (.ofNat 0)=>match ts with
   | _ :: _=>some (.s 0 0,S)
   | []=>none
 | _,_=>none
theorem auns_ok {g:Nat}{m:Map}{S S':St}{w:World}(hR:R S.lk m w) {ts:List TypeId}{a l r:AV}{av lv:Value}(h:auns P g S ts a l=some (r,S')) (ha:cvo m a=some av) (hl:cvo m l=some lv) (ty:TypeId) :
 ∃ w' v,(Builtin.unsafeString_ ts.toArray ty #[av,lv]).run P w=.ok v w'∧cvo m r=some v∧Step g m S.lk S.nx w m S'.lk S'.nx w':=by
 unfold auns at h
 split at h
 ·rename_i id off k n
  split at h
  rotate_left
  ·cases h
  rename_i pt rest
  split at h
  rotate_left
  ·cases h
  rename_i e t cs fz ex hpt hlk
  cases hb:(((Nat.beq (P.cellsOf t) 1 && Nat.beq (P.underlyingId t) (P.underlyingId e)) && (Nat.ble g id && Nat.beq (len (tke n (drp off cs))) n)) && (!(Nat.beq n 0) && Nat.ble n 1073741824))with
  | false=>rw[hb]at h;cases h
  | true=>
  rw[hb,cond_true]at h
  rw[Bool.and_eq_true,Bool.and_eq_true,Bool.and_eq_true,Bool.and_eq_true,Bool.and_eq_true,Nat.beq_eq,Nat.beq_eq,Nat.ble_eq,Nat.beq_eq,Bool.not_eq_true',← Bool.not_eq_true,Nat.beq_eq,Nat.ble_eq,len_eq,tke_eq,drp_eq]at hb
  obtain ⟨⟨⟨b1,b2⟩,b3,b4⟩,b5,b6⟩:=hb
  split at h
  ·rename_i x hx
   obtain ⟨rfl,rfl⟩:=Prod.mk.inj (Option.some.inj h)
   obtain ⟨L,c,fr,vs,h1,h2,h3,h4,h5,h6,_⟩:=hR.holds _ _ hlk
   simp only[cvo,h1,Option.map_some,Option.some.injEq]at ha hl
   subst ha hl
   rw[tke_eq,drp_eq]at hx
   have hvs:=cvs_take n (cvs_drop off h5)
   obtain ⟨q1,q2⟩:=apkb_ok hx hvs
   rw[b4]at q1 q2
   have hlen:off+n≤cs.length:=by
    simp only[List.length_take,List.length_drop]at b4;omega
   have hcell:∀ i v,(unp n x)[i]?=some v→w.cell? ⟨L.b,L.s+off+i,none⟩=some (.int .u8 (v.toNat:Int)):=by
    intro i v hv
    have hi:i<n:=by have:=(List.getElem?_eq_some_iff.1 hv).1;rwa [unp_length]at this
    have e1:vs[off+i]?=some (.int .u8 (v.toNat:Int)):=by
     have e2:((vs.drop off).take n)[i]?=some (.int .u8 (v.toNat:Int)):=by rw[q2];simp[hv]
     rwa [List.getElem?_take_of_lt hi,List.getElem?_drop]at e2
    have:=h6 _ _ e1
    rw[← Nat.add_assoc]at this
    exact cell_at h2 this
   have hload:=run_loadBytes (P:=P) w L.b (unp n x) (L.s+off) .empty hcell
   rw[unp_length]at hload
   have hvar:(variablesAt ⟨L.b,L.s+off,none⟩ e n).run P w=.ok true w:=by
    have hsh:w.shape? L.b=some (t,c.size):=by simp[World.shape?,h2]
    have hlies:liesAt P P.depth t (c.size / P.cellsOf t) (L.s+off) e n=true:=by
     have hd:∃ d,P.depth=d+1:=⟨2*(P.types.size+Made.depth)+1,rfl⟩
     obtain ⟨d,hd⟩:=hd
     have hsl:sameLayout P P.depth t e=true:=by
      rw[hd];simp only[sameLayout,b2,beq_self_eq_true,Bool.true_or]
     have hrow:rowAt P (sameLayout P P.depth · e) P.depth t (c.size / P.cellsOf t) (L.s+off) n=true:=by
      rw[hd]
      simp only[rowAt,b1]
      rw[← hd]
      simp only[Nat.succ_ne_zero,if_false,Nat.div_one,Nat.mod_one,beq_self_eq_true,Bool.true_and,hsl,Bool.and_true]
      have:decide (L.s+off+n≤c.size)=true:=decide_eq_true (by omega)
      simp[this]
     have:∀ k,liesAt P (k+1) t (c.size / P.cellsOf t) (L.s+off) e n=true:=by
      intro k;simp only[liesAt,hrow,Bool.true_or]
     rw[hd];exact this d
    simp[variablesAt,hsh,hlies]
   have hel:(elemOf pt).run P w=.ok e w:=by simp[elemOf,run_und hpt]
   refine ⟨w.freeze ⟨L.b,L.s+off,none⟩ n,.string ⟨(unp n x).toArray⟩,?_,by simp only[cvo];rw[if_pos q1],?_⟩
   ·have hmx:¬ ((n:Int) > IntKind.i64.max):=by simp only[IntKind.max,IntKind.signed,IntKind.bits];simp;omega
    have e0:ByteArray.empty ++ (⟨(unp n x).toArray⟩:ByteArray)=⟨(unp n x).toArray⟩:=by apply ByteArray.ext;simp[ByteArray.data_append]
    rw[e0]at hload
    have hmx':¬ (9223372036854775807<(n:Int)):=by omega
    have key:Builtin.unsafeString_ (pt :: rest).toArray ty #[.pointer (some ⟨L.b,L.s+off,none⟩),.int k (Int.ofNat n)]=(do
     if (n:Int)<0 then runtimePanic (.error "unsafe.String: len out of range")
     if (n:Int) > IntKind.i64.max then unsupported (.unsafePointer "String: a length above the largest int")
     if (n:Int)=0 then pure (.string .empty)
     else if ← variablesAt ⟨L.b,L.s+off,none⟩ (← elemOf pt) n then do
      let s ← loadBytes ⟨L.b,L.s+off,none⟩ .empty n
      freeze ⟨L.b,L.s+off,none⟩ n
      pure (.string s)
     else unsupported (.unsafePointer "String: not so many bytes at ptr")):=rfl
    rw[key]
    rw[if_neg (by omega),if_neg hmx,if_neg (by omega)]
    simp only[Sem.run_bind,Sem.run_pure,Result.andThen_ok,hel,hvar,if_true,hload,run_freeze]
   ·have hfz:∀ j,j≠L.b→(w.freeze ⟨L.b,L.s+off,none⟩ n).heap[j]?=w.heap[j]?:=by
     intro j hj
     unfold World.freeze
     rw[if_neg b5]
     simp only[Array.getElem?_modify]
     rw[if_neg (fun e=>hj e.symm)]
    refine Step.drop hR b3 hlk h1 hfz ?_ ?_ ?_ ?_ (fun j b hj=>?_) (fun j hj=>T.get_put_ne _ _ _ _ hj)
    ·unfold World.freeze;rw[if_neg b5];simp
    ·unfold World.freeze;rw[if_neg b5]
    ·unfold World.freeze;rw[if_neg b5]
    ·unfold World.freeze;rw[if_neg b5]
    ·by_cases e1:j=id
     ·subst e1
      have:(S.h.put none j).get j=some b:=hj
      rw[T.get_put_none]at this;cases this
     ·exact ⟨e1,by rw[← hj];exact (T.get_put_ne _ _ _ _ e1).symm⟩
  ·cases h
 ·split at h
  ·rename_i k pt rest
   obtain ⟨rfl,rfl⟩:=Prod.mk.inj (Option.some.inj h)
   simp only[cvo,Option.some.injEq]at ha hl
   subst ha hl
   refine ⟨w,.string ⟨(unp 0 0).toArray⟩,rfl,by simp[cvo],Step.refl hR⟩
  ·cases h
 ·cases h
end
end Am
end
section
namespace Am
open Go
noncomputable section
variable {P:Program}
def ard (P:Program) (lk:Lk) (ρ:Rho) (o:Op):Option AV:=
 match aload P lk ρ o with
 | some v=>some v
 | none=>match o with
   | .convert s d x=>match ρ x with
     | some a=>abts P lk s d a
     | none=>none
   | _=>none
theorem ard_ok {m:Map}{lk:Lk}{w:World}(hR:R lk m w) {ρ:Rho}{ev:Operand→Value}(hρ:RhoOk m ρ ev) {o:Oper}{r:AV}(h:ard P lk ρ o.op=some r) :
 ∃ z,cvo m r=some z∧(execOp ev o).run P w=.ok (.value z) w:=by
 unfold ard at h
 split at h
 ·rename_i v hv
  obtain rfl:=Option.some.inj h
  exact aload_ok hR hρ hv
 ·split at h
  ·rename_i s d x ho
   split at h
   ·rename_i a ha
    obtain ⟨z,h1,h2⟩:=abts_ok hR h (hρ _ _ ha)
    exact ⟨z,h1,by simp[execOp,ho,h2]⟩
   ·cases h
  ·cases h
def aclr (P:Program) (g:Nat) (S:St) (ts:List TypeId) (a:AV):Option St:=
 match ts with
 | []=>none
 | t :: _=>match und P t,a with
   | some (.map _ _),.nmp=>some S
   | some (.map _ _),.mp id=>match S.h.get id with
     | some (.map _ ck)=>bif Nat.ble g id then some ⟨S.h.put (some (.map [] ck)) id,S.nx⟩else none
     | _=>none
   | _,_=>none
theorem aclr_ok {g:Nat}{m:Map}{S S':St}{w:World}(hR:R S.lk m w) {ts:List TypeId}{a:AV}{av:Value}(h:aclr P g S ts a=some S') (ha:cvo m a=some av) (ty:TypeId) :
 ∃ w',(Builtin.clear_ ts.toArray ty #[av]).run P w=.ok (.tuple #[]) w'∧Step g m S.lk S.nx w m S'.lk S'.nx w':=by
 unfold aclr at h
 split at h
 ·cases h
 rename_i t rest
 split at h
 ·rename_i ht
  obtain rfl:=Option.some.inj h
  simp only[cvo,Option.some.injEq]at ha;subst ha
  exact ⟨w,by simp[Builtin.clear_,run_und ht],Step.refl hR⟩
 ·rename_i kt et id ht
  split at h
  ·rename_i es ck hlk
   cases hb:Nat.ble g id with
   | false=>rw[hb]at h;cases h
   | true=>
   rw[hb,cond_true]at h
   rw[Nat.ble_eq]at hb
   obtain rfl:=Option.some.inj h
   obtain ⟨L,es',h1,h2,h3⟩:=hR.holds _ _ hlk
   simp only[cvo,h1,Option.map_some,Option.some.injEq]at ha
   subst ha
   refine ⟨_,?_,map_put hR hb hlk h1 (es2':=#[]) .nil⟩
   simp[Builtin.clear_,run_und ht,MapKept.run_getObj_map h2,MapKept.run_setObj_map _ h2]
  ·cases h
 ·cases h
def abwr (P:Program) (g:Nat) (S:St) (b:Builtin) (ts:List TypeId) (as:List AV):Option (AV × St):=
 match b,as with
 | .append,[s,x]=>aapp P g S ts s x
 | .copy,[d,s]=>acpy P g S ts d s
 | .clear,[a]=>match aclr P g S ts a with
   | some S'=>some (.tp [],S')
   | none=>none
 | .unsafeString,[a,l]=>auns P g S ts a l
 | _,_=>none
def awr (P:Program) (g:Nat) (S:St) (ρ:Rho):Op→Option (AV × St)
 | .store t x v=>match ρ x,ρ v,szo P t with
   | some (.p id off),some a,some n=>bif Nat.beq (len (cel a)) n then (match asto g S id off (cel a)with
     | some S'=>some (.tp [],S')
     | none=>none)else none
   | _,_,_=>none
 | .mapUpdate t a k v=>match ρ a,ρ k,ρ v with
   | some a,some k,some v=>match amup P g S t a k v with
     | some S'=>some (.tp [],S')
     | none=>none
   | _,_,_=>none
 | .insert t a k v=>match ρ a,ρ k,ρ v with
   | some a,some k,some v=>match amup P g S t a k v with
     | some S'=>some (.tp [],S')
     | none=>none
   | _,_,_=>none
 | .mapEntry t a k=>match ρ a,ρ k with
   | some a,some k=>amen P g S t a k
   | _,_=>none
 | .entryStore _ a s v=>match ρ a,ρ s,ρ v with
   | some a,some s,some v=>match aest g S a s v with
     | some S'=>some (.tp [],S')
     | none=>none
   | _,_,_=>none
 | .range t x=>match ρ x with
   | some a=>arng P g S t a
   | none=>none
 | .next it s=>bif s then (match ρ it with
   | some a=>anxt g S a
   | none=>none)else none
 | .convert s d x=>match ρ x with
   | some a=>astb P g S s d a
   | none=>none
 | .call c=>match c.callee with
   | .builtin b=>match amap ρ c.args.toList with
     | some as=>abwr P g S b c.argTypes.toList as
     | none=>none
   | _=>none
 | _=>none
def Done (P:Program) (g:Nat) (m:Map) (S:St) (w:World) (S':St) (r:AV) (res:Result Next):Prop:=
 ∃ m' w' nx v,res=.ok nx w'∧(nx=.value v∨(nx=.skip∧v=undef))∧cvo m' r=some v∧Step g m S.lk S.nx w m' S'.lk S'.nx w'
theorem undef_ok (m:Map):cvo m (.tp [])=some undef:=rfl
theorem awr_ok {g:Nat}{m:Map}{S S':St}{w:World}(hR:R S.lk m w) (hf:Fre m S.nx S'.nx) {ρ:Rho}{ev:Operand→Value}(hρ:RhoOk m ρ ev) {o:Oper}{r:AV}(h:awr P g S ρ o.op=some (r,S')) :
 Done P g m S w S' r ((execOp ev o).run P w):=by
 obtain ⟨dst,op,type,pos,after,guard⟩:=o
 cases op<;>simp only[awr,reduceCtorEq]at h<;>simp only[execOp]
 case store t x v=>
  split at h
  ·rename_i id off a n hx hv hn
   cases hb:Nat.beq (len (cel a)) n with
   | false=>rw[hb]at h;cases h
   | true=>
   rw[hb,cond_true]at h
   rw[Nat.beq_eq,len_eq]at hb
   split at h
   ·rename_i S1 hS1
    obtain ⟨rfl,rfl⟩:=Prod.mk.inj (Option.some.inj h)
    have hp:=hρ _ _ hx
    have hc:=cel_ok (hρ _ _ hv)
    simp only[cvo,Option.map_eq_some_iff]at hp
    obtain ⟨L,hL,hp⟩:=hp
    obtain ⟨w',q1,q2⟩:=asto_ok (P:=P) hR hS1 hc hL
    refine ⟨m,w',.skip,undef,?_,.inr ⟨rfl,rfl⟩,undef_ok m,q2⟩
    have hsz:(ev v).cells.size=n:=by rw[← Array.length_toList,cvs_length hc,hb]
    rw[← hp]
    simp[Instr.storeAt,Instr.sureAddr,storeVar,run_szo hn,hsz,q1]
   ·cases h
  ·cases h
 case mapUpdate t a k v=>
  split at h
  ·rename_i a' k' v' ha hk hv
   split at h
   ·rename_i S1 hS1
    obtain ⟨rfl,rfl⟩:=Prod.mk.inj (Option.some.inj h)
    obtain ⟨w',q1,q2⟩:=amup_ok (P:=P) hR hS1 (hρ _ _ ha) (hρ _ _ hk) (hρ _ _ hv)
    exact ⟨m,w',.skip,undef,by simp[q1],.inr ⟨rfl,rfl⟩,undef_ok m,q2⟩
   ·cases h
  ·cases h
 case insert t a k v=>
  split at h
  ·rename_i a' k' v' ha hk hv
   split at h
   ·rename_i S1 hS1
    obtain ⟨rfl,rfl⟩:=Prod.mk.inj (Option.some.inj h)
    obtain ⟨w',q1,q2⟩:=amup_ok (P:=P) hR hS1 (hρ _ _ ha) (hρ _ _ hk) (hρ _ _ hv)
    exact ⟨m,w',.skip,undef,by simp[q1],.inr ⟨rfl,rfl⟩,undef_ok m,q2⟩
   ·cases h
  ·cases h
 case mapEntry t a k=>
  split at h
  ·rename_i a' k' ha hk
   obtain ⟨w',v,q1,q2,q3⟩:=amen_ok (P:=P) hR h (hρ _ _ ha) (hρ _ _ hk)
   exact ⟨m,w',.value v,v,by simp[q1],.inl rfl,q2,q3⟩
  ·cases h
 case entryStore t a s v=>
  split at h
  ·rename_i a' s' v' ha hs hv
   split at h
   ·rename_i S1 hS1
    obtain ⟨rfl,rfl⟩:=Prod.mk.inj (Option.some.inj h)
    obtain ⟨w',q1,q2⟩:=aest_ok (P:=P) (t:=t) hR hS1 (hρ _ _ ha) (hρ _ _ hs) (hρ _ _ hv)
    exact ⟨m,w',.skip,undef,by simp[q1],.inr ⟨rfl,rfl⟩,undef_ok m,q2⟩
   ·cases h
  ·cases h
 case range t x=>
  split at h
  ·rename_i a ha
   obtain ⟨m',w',v,q1,q2,q3⟩:=arng_ok (P:=P) hR hf h (hρ _ _ ha)
   exact ⟨m',w',.value v,v,by simp[q1],.inl rfl,q2,q3⟩
  ·cases h
 case next it s=>
  cases s with
  | false=>cases h
  | true=>
  rw[cond_true]at h
  split at h
  ·rename_i a ha
   obtain ⟨w',v,q1,q2,q3⟩:=anxt_ok (P:=P) hR h (hρ _ _ ha) type
   exact ⟨m,w',.value v,v,by simp[q1],.inl rfl,q2,q3⟩
  ·cases h
 case convert s d x=>
  split at h
  ·rename_i a ha
   obtain ⟨m',w',v,q1,q2,q3⟩:=astb_ok (P:=P) hR hf h (hρ _ _ ha)
   exact ⟨m',w',.value v,v,by simp[q1],.inl rfl,q2,q3⟩
  ·cases h
 case call c=>
  split at h
  ·rename_i b hb
   split at h
   ·rename_i as has
    have hm:=amap_ok hρ has
    have e:c.args.map ev=(c.args.toList.map ev).toArray:=by apply Array.ext';simp
    have ets:c.argTypes.toList.toArray=c.argTypes:=by simp
    simp only[resolve,hb,Sem.run_bind,Sem.run_pure,Result.andThen_ok,invoke]
    rw[e]
    generalize c.args.toList.map ev=vs at hm
    generalize (c.args.map fun | .const _=>true|_=>false)=cs
    unfold abwr at h
    split at h
    ·rename_i s x
     obtain ⟨sv,vs1,h1,h2,rfl⟩:=cvs_cons.1 hm
     obtain ⟨xv,vs2,h3,h4,rfl⟩:=cvs_cons.1 h2
     simp[cvs]at h4;subst h4
     obtain ⟨m',w',v,q1,q2,q3⟩:=aapp_ok (P:=P) hR hf h h1 h3 type
     rw[ets]at q1
     exact ⟨m',w',.value v,v,by simp[builtin,q1],.inl rfl,q2,q3⟩
    ·rename_i d s
     obtain ⟨dv,vs1,h1,h2,rfl⟩:=cvs_cons.1 hm
     obtain ⟨sv,vs2,h3,h4,rfl⟩:=cvs_cons.1 h2
     simp[cvs]at h4;subst h4
     obtain ⟨w',v,q1,q2,q3⟩:=acpy_ok (P:=P) hR h h1 h3 type
     rw[ets]at q1
     exact ⟨m,w',.value v,v,by simp[builtin,q1],.inl rfl,q2,q3⟩
    ·rename_i a
     obtain ⟨av,vs1,h1,h2,rfl⟩:=cvs_cons.1 hm
     simp[cvs]at h2;subst h2
     split at h
     ·rename_i S1 hS1
      obtain ⟨rfl,rfl⟩:=Prod.mk.inj (Option.some.inj h)
      obtain ⟨w',q1,q2⟩:=aclr_ok (P:=P) hR hS1 h1 type
      rw[ets]at q1
      exact ⟨m,w',.value undef,undef,by simp[builtin,q1];rfl,.inl rfl,undef_ok m,q2⟩
     ·cases h
    ·rename_i a l
     obtain ⟨av,vs1,h1,h2,rfl⟩:=cvs_cons.1 hm
     obtain ⟨lv,vs2,h3,h4,rfl⟩:=cvs_cons.1 h2
     simp[cvs]at h4;subst h4
     obtain ⟨w',v,q1,q2,q3⟩:=auns_ok (P:=P) hR h h1 h3 type
     rw[ets]at q1
     exact ⟨m,w',.value v,v,by simp[builtin,q1],.inl rfl,q2,q3⟩
    ·cases h
   ·cases h
  ·cases h
end
end Am
end
