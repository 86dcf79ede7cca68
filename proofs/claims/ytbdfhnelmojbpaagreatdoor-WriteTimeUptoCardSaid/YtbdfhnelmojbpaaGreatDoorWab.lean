/- A machine for closed runs: slices of texts and slices, parts of structs. No program in sight. -/
import Derived.Test.YtbdfhnelmojbpaaGreatDoorWaa
import Derived.MapKept
set_option linter.unusedVariables false
set_option linter.unusedSimpArgs false
section
namespace Am
open Go
noncomputable section
abbrev Rho:=Operand→Option AV
def RhoOk (m:Map) (ρ:Rho) (ev:Operand→Value):Prop:=∀ x a,ρ x=some a→cvo m a=some (ev x)
def bd (ρ:Rho) (x:Operand):Option Nat:=
 match ρ x with
 | some (.i _ (.ofNat n))=>some n
 | _=>none
def obd (ρ:Rho):Option Operand→Option (Option Nat)
 | none=>some none
 | some x=>match bd ρ x with
   | some n=>some (some n)
   | none=>none
def OB (o:Option Value) (n:Option Nat):Prop:=(o=none∧n=none)∨∃ (k:IntKind) (v:Nat),o=some (.int k (v:Int))∧n=some v
theorem bd_ok {m:Map}{ρ:Rho}{ev:Operand→Value}(hρ:RhoOk m ρ ev) {x:Operand}{n:Nat}(h:bd ρ x=some n):∃ k,ev x=.int k (n:Int):=by
 unfold bd at h
 split at h
 ·rename_i k n' hx
  have:=hρ _ _ hx
  simp only[cvo,Option.some.injEq]at this
  obtain rfl:=Option.some.inj h
  exact ⟨k,this.symm⟩
 ·cases h
theorem obd_ok {m:Map}{ρ:Rho}{ev:Operand→Value}(hρ:RhoOk m ρ ev) {x:Option Operand}{n:Option Nat}(h:obd ρ x=some n):OB (x.map ev) n:=by
 unfold obd at h
 split at h
 ·obtain rfl:=Option.some.inj h;exact .inl ⟨rfl,rfl⟩
 ·split at h
  ·rename_i n' hn
   obtain rfl:=Option.some.inj h
   obtain ⟨k,hk⟩:=bd_ok hρ hn
   exact .inr ⟨k,n',by simp[hk],rfl⟩
  ·cases h
variable {P:Program}
theorem sliceBound_ok (k:IntKind) (n y:Nat) (c:BoundsCode) (w:World) (h:n≤y):(Instr.sliceBound (.int k (n:Int)) y c).run P w=.ok n w:=by
 unfold Instr.sliceBound
 simp[asIntOf,h]
theorem sliceBounds_ok (s:Bool) (len cap:Nat) {lo hi:Option Value}{l h:Option Nat}(hl:OB lo l) (hh:OB hi h) (w:World) (h1:h.getD len≤cap) (h2:l.getD 0≤h.getD len) :
 (Instr.sliceBounds s len cap lo hi none).run P w=.ok (l.getD 0,h.getD len,cap) w:=by
 unfold Instr.sliceBounds
 rcases hl with ⟨rfl,rfl⟩|⟨k,v,rfl,rfl⟩<;>rcases hh with ⟨rfl,rfl⟩|⟨k',v',rfl,rfl⟩<;>simp only[Option.getD_none,Option.getD_some]at h1 h2 ⊢
 ·simp
 ·simp[sliceBound_ok k' v' cap _ w h1]
 ·simp[sliceBound_ok k v len _ w h2]
 ·simp[sliceBound_ok k' v' cap _ w h1,sliceBound_ok k v v' _ w h2]
theorem sliceBounds3_ok (s:Bool) (len cap:Nat) {lo:Option Value}{l:Option Nat}(hl:OB lo l) (k1 k2:IntKind) (h m:Nat) (w:World) (h1:h≤m) (h2:l.getD 0≤h) (h3:m≤cap) :
 (Instr.sliceBounds s len cap lo (some (.int k1 (h:Int))) (some (.int k2 (m:Int)))).run P w=.ok (l.getD 0,h,m) w:=by
 unfold Instr.sliceBounds
 rcases hl with ⟨rfl,rfl⟩|⟨k,v,rfl,rfl⟩<;>simp only[Option.getD_none,Option.getD_some]at h2 ⊢
 ·simp[sliceBound_ok k2 m cap _ w h3,sliceBound_ok k1 h m _ w h1]
 ·simp[sliceBound_ok k2 m cap _ w h3,sliceBound_ok k1 h m _ w h1,sliceBound_ok k v h _ w h2]
def aslc (id off len:Nat) (cap:Option Nat) (es pre:Nat) (lo hi:Option Nat):Option Nat→Option AV
 | none=>bif Nat.ble (hi.getD len) (cap.getD len) && Nat.ble (lo.getD 0) (hi.getD len)then
  some (.sl id (off+lo.getD 0*es) (hi.getD len - lo.getD 0) (match cap with|some c=>some (c - lo.getD 0)|none=>none) es (bif Nat.beq (lo.getD 0) 0 then pre else lo.getD 0*es))else none
 | some m=>match hi with
   | none=>none
   | some h=>bif Nat.ble m (cap.getD len) && (Nat.ble h m && (Nat.ble (lo.getD 0) h && !(Nat.beq m 0)))then
    some (.sl id (off+lo.getD 0*es) (h - lo.getD 0) (some (m - lo.getD 0)) es (bif Nat.beq (lo.getD 0) 0 then pre else lo.getD 0*es))else none
theorem addr_add (b o n:Nat):(Addr.add ⟨b,o,none⟩ n)=⟨b,o+n,none⟩:=by
 unfold Addr.add
 split
 ·rename_i h;subst h;rfl
 ·rfl
theorem aslc_val {m:Map}{id off len es pre:Nat}{cap:Option Nat}{L:Loc}(hL:m id=some L) (c:Nat) (hc:c=cap.getD ((L.e - off) / es)) (h1:len≤c) (h0:0<es) (h2:off+c*es≤L.e)
 (l h:Nat) (cap':Option Nat) (mm:Nat) (hmc:cap'=some (mm - l)∧(mm≠0∧mm≤c∨mm=c)∨(cap'=none∧cap=none∧mm=c)) (hl:l≤h) (hh:h≤mm) :
 cvo m (.sl id (off+l*es) (h - l) cap' es (bif Nat.beq l 0 then pre else l*es)) =
  some (.slice (if mm=l then some ⟨L.b,L.s+off - (if c=0 then pre else 0),none⟩else (some (⟨L.b,L.s+off - (if c=0 then pre else 0),none⟩:Addr)).map (·.add (l*es))) (h - l) (mm - l)):=by
 have hlc:l≤c:=by rcases hmc with ⟨_,h|h⟩|⟨_,_,h⟩<;>omega
 have hmmc:mm≤c:=by rcases hmc with ⟨_,h|h⟩|⟨_,_,h⟩<;>omega
 have hle:l*es≤c*es:=Nat.mul_le_mul_right es hlc
 have hcap:cap'.getD ((L.e - (off+l*es)) / es)=mm - l:=by
  rcases hmc with ⟨rfl,_⟩|⟨rfl,rfl,rfl⟩
  ·rfl
  ·simp only[Option.getD_none]at hc ⊢
   rw[hc,Nat.sub_add_eq,Nat.mul_comm l es,Nat.sub_mul_div_of_le]
   rw[Nat.mul_comm es l];exact Nat.le_trans hle (by omega)
 have hmul:(mm - l)*es+l*es≤c*es:=by
  rw[← Nat.add_mul];exact Nat.mul_le_mul_right es (by omega)
 simp only[cvo,hL,Option.bind_some,hcap]
 rw[if_pos ⟨by omega,h0,by omega⟩]
 congr 1
 by_cases e:mm=l
 ·subst e
  rw[if_pos rfl,Nat.sub_self,if_pos rfl]
  congr 3
  by_cases h00:mm=0
  ·subst h00
   have hc0:c=0:=by rcases hmc with ⟨_,h|h⟩|⟨_,_,h⟩<;>omega
   rw[hc0];simp
  ·have hc0:c≠0:=by omega
   have hb:Nat.beq mm 0=false:=by rw[Bool.eq_false_iff,Ne,Nat.beq_eq];exact h00
   rw[hb,cond_false,if_neg hc0];omega
 ·have hc0:c≠0:=by omega
  rw[if_neg e,if_neg hc0,if_neg (by omega)]
  simp only[Option.map_some,addr_add,Nat.sub_zero]
  congr 3;omega
theorem aslc_ok {m:Map}{id off len es pre:Nat}{cap lo hi:Option Nat}{lv hv mv:Option Value}{mx:Option Nat}{r:AV}{t e:TypeId}{v:Value}
 (h:aslc id off len cap es pre lo hi mx=some r) (hv0:cvo m (.sl id off len cap es pre)=some v) (hl:OB lv lo) (hh:OB hv hi) (hm:OB mv mx) (ht:und P t=some (.slice e)) (hs:szo P e=some es) :
 ∃ z,cvo m r=some z∧∀ w,(Instr.sliceAt t v lv hv mv).run P w=.ok z w:=by
 simp only[cvo,Option.bind_eq_some_iff,Option.ite_none_right_eq_some,Option.some.injEq]at hv0
 obtain ⟨L,hL,⟨g1,g2,g3⟩,rfl⟩:=hv0
 obtain ⟨c,hc⟩:∃ c,c=cap.getD ((L.e - off) / es):=⟨_,rfl⟩
 rw[← hc]at g1 g3 ⊢
 have hcl:cap.getD len≤c:=by
  cases cap with
  | none=>exact g1
  | some x=>simp at hc;simp[hc]
 have run:∀ (lo' hi' mm:Nat) (w:World),(Instr.sliceBounds true len c lv hv mv).run P w=.ok (lo',hi',mm) w →
  (Instr.sliceAt t (.slice (some ⟨L.b,L.s+off - (if c=0 then pre else 0),none⟩) len c) lv hv mv).run P w =
   .ok (.slice (if mm=lo' then some ⟨L.b,L.s+off - (if c=0 then pre else 0),none⟩else (some (⟨L.b,L.s+off - (if c=0 then pre else 0),none⟩:Addr)).map (·.add (lo'*es))) (hi' - lo') (mm - lo')) w:=by
  intro lo' hi' mm w hr
  simp[Instr.sliceAt,run_und ht,Instr.slice,hr,run_szo hs]
 unfold aslc at h
 split at h
 ·cases hb:(Nat.ble (hi.getD len) (cap.getD len) && Nat.ble (lo.getD 0) (hi.getD len))with
  | false=>rw[hb]at h;cases h
  | true=>
    rw[hb,cond_true]at h
    rw[Bool.and_eq_true,Nat.ble_eq,Nat.ble_eq]at hb
    obtain rfl:=Option.some.inj h
    have hm':mv=none:=by rcases hm with ⟨h,_⟩|⟨_,_,_,h⟩;exact h;cases h
    subst hm'
    refine ⟨_,aslc_val hL c hc g1 g2 g3 (lo.getD 0) (hi.getD len) _ c ?_ hb.2 (by omega),fun w=>?_⟩
    ·cases cap with
     | none=>exact .inr ⟨rfl,rfl,rfl⟩
     | some x=>exact .inl ⟨by simp at hc;simp[hc],.inr rfl⟩
    ·exact run _ _ _ w (sliceBounds_ok true len c hl hh w (by omega) hb.2)
 ·rename_i mm
  split at h
  ·cases h
  ·rename_i hh'
   cases hb:(Nat.ble mm (cap.getD len) && (Nat.ble hh' mm && (Nat.ble (lo.getD 0) hh' && !(Nat.beq mm 0))))with
   | false=>rw[hb]at h;cases h
   | true=>
     rw[hb,cond_true]at h
     rw[Bool.and_eq_true,Bool.and_eq_true,Bool.and_eq_true,Nat.ble_eq,Nat.ble_eq,Nat.ble_eq,Bool.not_eq_true',← Bool.not_eq_true,Nat.beq_eq]at hb
     obtain rfl:=Option.some.inj h
     have hm':∃ k,mv=some (.int k (mm:Int)):=by
      rcases hm with ⟨_,h⟩|⟨k,v,h,h'⟩
      ·cases h
      ·obtain rfl:=Option.some.inj h';exact ⟨k,h⟩
     have hh'':∃ k,hv=some (.int k (hh':Int)):=by
      rcases hh with ⟨_,h⟩|⟨k,v,h,h'⟩
      ·cases h
      ·obtain rfl:=Option.some.inj h';exact ⟨k,h⟩
     obtain ⟨k2,rfl⟩:=hm'
     obtain ⟨k1,rfl⟩:=hh''
     refine ⟨_,aslc_val hL c hc g1 g2 g3 (lo.getD 0) hh' _ mm (.inl ⟨rfl,.inl ⟨hb.2.2.2,by omega⟩⟩) hb.2.2.1 hb.2.1,fun w=>?_⟩
     exact run _ _ _ w (sliceBounds3_ok true len c hl k1 k2 hh' mm w hb.2.1 hb.2.2.1 (by omega))
end
end Am
end
section
namespace Am
open Go
noncomputable section
variable {P:Program}
def putR (off:Nat) (l cells:List AV):List AV:=lapp (tke off cells) (lapp l (drp (Nat.add off (len l)) cells))
theorem putR_eq (off:Nat) (l cells:List AV):putR off l cells=tke off cells ++ (l ++ drp (off+len l) cells):=by unfold putR;rw[lapp_eq,lapp_eq];rfl
theorem fold_put (off:Nat):∀ (l:List Value) (k:Nat) (cells:Array Value),off+k+l.length≤cells.size →
 (l.zipIdx k).foldl (fun cs (x:Value × Nat)=>cs.setIfInBounds (off+x.2) x.1) cells=(cells.toList.take (off+k) ++ (l ++ cells.toList.drop (off+k+l.length))).toArray
 | [],k,cells,h=>by simp
 | c :: l,k,cells,h=>by
   simp only[List.length_cons]at h
   simp only[List.zipIdx_cons,List.foldl_cons]
   rw[fold_put off l (k+1) _ (by simp;omega)]
   have hlt:off+k<cells.toList.length:=by simp;omega
   congr 1
   simp only[Array.toList_setIfInBounds]
   rw[show off+(k+1)=off+k+1 by omega,List.take_add_one,List.getElem?_set_self hlt,List.take_set_of_le (Nat.le_refl _),List.drop_set_of_lt (by omega)]
   simp only[Option.toList_some,List.append_assoc,List.cons_append,List.nil_append,List.length_cons]
   rw[show off+k+1+l.length=off+k+(l.length+1) by omega]
def afill (pl:Nat→Option (Nat × Nat)):List (Nat × AV)→List AV→Option (List AV)
 | [],cells=>some cells
 | (i,v) :: rest,cells=>match pl i with
   | none=>none
   | some (off,n)=>bif Nat.beq (len (cel v)) n && Nat.ble (off+n) (len cells)then afill pl rest (putR off (cel v) cells)else none
def PartsOk (m:Map):List (Nat × AV)→List (Nat × Value)→Prop:=F2 (fun x y=>x.1=y.1∧cvo m x.2=some y.2)
theorem afill_ok {m:Map}{pl:Nat→Option (Nat × Nat)}:∀ {ps:List (Nat × AV)}{qs:List (Nat × Value)}{cells r:List AV}{vs:List Value},PartsOk m ps qs→cvs m cells=some vs→afill pl ps cells=some r →
 ∃ us,Instr.fill pl vs.toArray qs=some us.toArray∧cvs m r=some us∧us.length=vs.length
 | _,_,cells,r,vs,.nil,hc,h=>by
   simp[afill]at h;subst h;exact ⟨vs,rfl,hc,rfl⟩
 | (i,a) :: ps,(j,v) :: qs,cells,r,vs,.cons h1 h2,hc,h=>by
   obtain ⟨hij,hv⟩:=h1
   simp only at hij hv
   subst hij
   simp only[afill]at h
   split at h
   ·cases h
   ·rename_i off n hpl
    cases hb:(Nat.beq (len (cel a)) n && Nat.ble (off+n) (len cells))with
    | false=>rw[hb]at h;cases h
    | true=>
      rw[hb,cond_true]at h
      rw[Bool.and_eq_true,Nat.beq_eq,Nat.ble_eq,len_eq,len_eq]at hb
      have hcl:=cel_ok hv
      have e1:=cvs_length hcl
      have e2:=cvs_length hc
      have hnew:cvs m (putR off (cel a) cells)=some (vs.take off ++ (v.cells.toList ++ vs.drop (off+v.cells.toList.length))):=by
       rw[putR_eq,tke_eq,drp_eq,len_eq,← e1]
       exact cvs_append (cvs_take _ hc) (cvs_append hcl (cvs_drop _ hc))
      obtain ⟨us,f1,f2,f3⟩:=afill_ok h2 hnew h
      refine ⟨us,?_,f2,?_⟩
      ·simp only[Instr.fill,hpl]
       have c1:v.cells.size=n:=by rw[← Array.length_toList];omega
       have c2:off+n≤vs.length:=by omega
       rw[if_neg (by simp[c1,c2])]
       rw[← f1]
       congr 1
       rw[← Array.foldl_toList,Array.toList_zipIdx]
       have:=fold_put off v.cells.toList 0 vs.toArray (by simp;rw[← Array.length_toList];omega)
       simpa using this
      ·rw[f3];simp only[List.length_append,List.length_take,List.length_drop];omega
def fsz (P:Program):List Field→Option (List (Nat × Nat))
 | []=>some []
 | f :: r=>match szo P f.type with
   | none=>none
   | some n=>match fsz P r with
     | none=>none
     | some l=>some ((f.offset,n) :: l)
theorem fsz_ok:∀ {fs:List Field}{l:List (Nat × Nat)},fsz P fs=some l→∀ w,(fs.mapM (fun f=>(do pure (f.offset,← Go.sizeOf f.type):Sem (Nat × Nat)))).run P w=.ok l w
 | [],l,h,w=>by simp[fsz]at h;subst h;rfl
 | f :: fs,l,h,w=>by
   simp only[fsz]at h
   split at h
   ·cases h
   ·rename_i n hn
    split at h
    ·cases h
    ·rename_i l' hl
     obtain rfl:=Option.some.inj h
     rw[List.mapM_cons]
     simp only[Sem.run_bind,run_szo hn,Result.andThen_ok,Sem.run_pure,fsz_ok hl w]
def aprt (ρ:Rho):List (Nat × Operand)→Option (List (Nat × AV))
 | []=>some []
 | (i,x) :: r=>match ρ x with
   | none=>none
   | some a=>match aprt ρ r with
     | none=>none
     | some l=>some ((i,a) :: l)
theorem aprt_ok {m:Map}{ρ:Rho}{ev:Operand→Value}(hρ:RhoOk m ρ ev):∀ {ps:List (Nat × Operand)}{l:List (Nat × AV)},aprt ρ ps=some l→PartsOk m l (ps.map fun x=>(x.1,ev x.2))
 | [],l,h=>by simp[aprt]at h;subst h;exact .nil
 | (i,x) :: r,l,h=>by
   simp only[aprt]at h
   split at h
   ·cases h
   ·rename_i a ha
    split at h
    ·cases h
    ·rename_i l' hl
     obtain rfl:=Option.some.inj h
     exact .cons ⟨rfl,hρ _ _ ha⟩ (aprt_ok hρ hl)
def obl (x:Option AV) (y:Option (List AV)):Option (List AV):=Option.rec (motive:=fun _=>Option (List AV)) none (fun a=>Option.rec (motive:=fun _=>Option (List AV)) none (fun l=>some (a :: l)) y) x
theorem obl_some {x:Option AV}{y:Option (List AV)}{r:List AV}(h:obl x y=some r):∃ a l,x=some a∧y=some l∧r=a :: l:=by
 cases x with
 | none=>cases h
 | some a=>cases y with
   | none=>cases h
   | some l=>exact ⟨a,l,rfl,rfl,(Option.some.inj h).symm⟩
def amapT:List Operand→Rho→Option (List AV):=List.rec (motive:=fun _=>Rho→Option (List AV)) (fun _=>some []) (fun x _ ih ρ=>obl (ρ x) (ih ρ))
def amap (ρ:Rho) (l:List Operand):Option (List AV):=amapT l ρ
theorem amap_ok {m:Map}{ρ:Rho}{ev:Operand→Value}(hρ:RhoOk m ρ ev):∀ {ps:List Operand}{l:List AV},amap ρ ps=some l→cvs m l=some (ps.map ev)
 | [],l,h=>by
   have h:some []=some l:=h
   obtain rfl:=Option.some.inj h;rfl
 | x :: r,l,h=>by
   obtain ⟨a,l',ha,hl,rfl⟩:=obl_some (x:=ρ x) (y:=amap ρ r) h
   exact cvs_cons.2 ⟨_,_,hρ _ _ ha,amap_ok hρ hl,rfl⟩
def abuild (P:Program) (t:TypeId) (ps:List (Nat × AV)):Option AV:=
 match zero P t,und P t with
 | some z,some (.struct fs)=>match fsz P fs.toList with
   | some l=>(afill (nth l) ps (cel z)).map .ag
   | none=>none
 | some z,some (.array _ e)=>match szo P e with
   | some n=>(afill (fun i=>some (i*n,n)) ps (cel z)).map .ag
   | none=>none
 | _,_=>none
theorem abuild_ok {m:Map}{t:TypeId}{ps:List (Nat × AV)}{qs:Array (Nat × Value)}{r:AV}(h:abuild P t ps=some r) (hp:PartsOk m ps qs.toList) :
 ∃ z,cvo m r=some z∧∀ w,(Instr.build t qs).run P w=.ok z w:=by
 unfold abuild at h
 split at h
 ·rename_i z fs hz ht
  split at h
  ·rename_i l hl
   rw[Option.map_eq_some_iff]at h
   obtain ⟨cs,h1,rfl⟩:=h
   obtain ⟨v,hv,hzv⟩:=zero_ok hz m
   obtain ⟨us,f1,f2,_⟩:=afill_ok hp (cel_ok hv) h1
   refine ⟨.agg us.toArray,by simp[cvo,f2],fun w=>?_⟩
   have hn:(fun i=>(l.toArray)[i]?)=nth l:=by funext i;rw[nth_eq];simp
   have hpl:(fs.mapM (fun f=>(do pure (f.offset,← Go.sizeOf f.type):Sem (Nat × Nat)))).run P w=.ok l.toArray w:=by
    rw[Array.mapM_eq_mapM_toList,Sem.run_map,fsz_ok hl w];rfl
   unfold Instr.build
   simp only[Sem.run_bind,hzv,run_und ht,Result.andThen_ok,hpl]
   have f1':Instr.fill (fun x=>l.toArray[x]?) v.cells qs.toList=some us.toArray:=by
    rw[hn];simpa using f1
   rw[f1'];rfl
  ·cases h
 ·rename_i z ln e hz ht
  split at h
  ·rename_i n hn
   rw[Option.map_eq_some_iff]at h
   obtain ⟨cs,h1,rfl⟩:=h
   obtain ⟨v,hv,hzv⟩:=zero_ok hz m
   obtain ⟨us,f1,f2,_⟩:=afill_ok hp (cel_ok hv) h1
   refine ⟨.agg us.toArray,by simp[cvo,f2],fun w=>?_⟩
   unfold Instr.build
   simp only[Sem.run_bind,hzv,run_und ht,Result.andThen_ok,run_szo hn]
   have f1':Instr.fill (fun i=>some (i*n,n)) v.cells qs.toList=some us.toArray:=by simpa using f1
   rw[f1'];rfl
  ·cases h
 ·cases h
def amm (mx:Bool):List AV→AV→Option AV
 | [],a=>some a
 | .i _ y :: r,.i k x=>amm mx r (.i k (bif (bif mx then ilt x y else ilt y x)then y else x))
 | _ :: _,_=>none
theorem amm_max {m:Map}:∀ {l:List AV}{vs:List Value}{a r:AV}{v:Value},cvs m l=some vs→cvo m a=some v→amm true l a=some r→∃ z,cvo m r=some z∧∀ w,(vs.foldlM Builtin.max2 v).run P w=.ok z w
 | [],vs,a,r,v,hl,ha,h=>by
   simp[cvs]at hl;subst hl
   simp[amm]at h;subst h
   exact ⟨v,ha,fun w=>rfl⟩
 | b :: l,vs,a,r,v,hl,ha,h=>by
   obtain ⟨u,us,h1,h2,rfl⟩:=cvs_cons.1 hl
   cases b<;>cases a<;>simp only[amm,reduceCtorEq]at h
   ·rename_i k' y k x
    simp only[cvo,Option.some.injEq]at h1 ha
    subst h1 ha
    obtain ⟨z,f1,f2⟩:=amm_max h2 (v:=.int k (if y > x then y else x)) (by
     simp only[cvo,ilt_eq,cond_true]
     by_cases hh:x<y<;>simp[hh]) h
    refine ⟨z,f1,fun w=>?_⟩
    rw[List.foldlM_cons,Sem.run_bind]
    simp only[Builtin.max2,Sem.run_pure,Result.andThen_ok,f2]
theorem amm_min {m:Map}:∀ {l:List AV}{vs:List Value}{a r:AV}{v:Value},cvs m l=some vs→cvo m a=some v→amm false l a=some r→∃ z,cvo m r=some z∧∀ w,(vs.foldlM Builtin.min2 v).run P w=.ok z w
 | [],vs,a,r,v,hl,ha,h=>by
   simp[cvs]at hl;subst hl
   simp[amm]at h;subst h
   exact ⟨v,ha,fun w=>rfl⟩
 | b :: l,vs,a,r,v,hl,ha,h=>by
   obtain ⟨u,us,h1,h2,rfl⟩:=cvs_cons.1 hl
   cases b<;>cases a<;>simp only[amm,reduceCtorEq]at h
   ·rename_i k' y k x
    simp only[cvo,Option.some.injEq]at h1 ha
    subst h1 ha
    obtain ⟨z,f1,f2⟩:=amm_min h2 (v:=.int k (if y<x then y else x)) (by
     simp only[cvo,ilt_eq,cond_false]
     by_cases hh:y<x<;>simp[hh]) h
    refine ⟨z,f1,fun w=>?_⟩
    rw[List.foldlM_cons,Sem.run_bind]
    simp only[Builtin.min2,Sem.run_pure,Result.andThen_ok,f2]
end
end Am
end
section
namespace Am
open Go
noncomputable section
variable {P:Program}
def acv (P:Program) (s d:TypeId) (a:AV):Option AV:=
 match und P s,und P d,a with
 | some _,some (.int k),.i _ n=>some (.i k (iwrap k n))
 | some _,some .string,.s n x=>some (.s n x)
 | _,_,_=>none
def afda (P:Program) (s:TypeId) (a:AV) (f:Nat):Option AV:=
 match und P s,a with
 | some (.struct fs),.p id off=>match nth fs.toList f with
   | some fd=>match szo P fd.type with
     | some n=>bif Nat.beq n 0 then none else some (.p id (off+fd.offset))
     | none=>none
   | none=>none
 | _,_=>none
def afld (P:Program) (t:TypeId) (a:AV) (f:Nat):Option AV:=
 match und P t,a with
 | some (.struct fs),.ag l=>match nth fs.toList f with
   | some fd=>prt P fd.type l fd.offset
   | none=>none
 | _,_=>none
def aixa (P:Program) (t:TypeId) (a:AV) (i:Nat):Option AV:=
 match und P t,a with
 | some (.array n e),.p id off=>match szo P e with
   | some s=>bif Nat.blt i n then some (.p id (off+i*s))else none
   | none=>none
 | some (.slice e),.sl id off n _ es _=>match szo P e with
   | some s=>bif Nat.beq s es && Nat.blt i n then some (.p id (off+i*es))else none
   | none=>none
 | _,_=>none
def aidx (P:Program) (t:TypeId) (a:AV) (i:Nat):Option AV:=
 match und P t,a with
 | some (.array n e),.ag l=>match szo P e with
   | some s=>bif Nat.blt i n then prt P e l (i*s)else none
   | none=>none
 | some .string,.s n x=>bif Nat.blt i n then some (.i .u8 (.ofNat (Nat.mod (Nat.shiftRight x (8*i)) 256)))else none
 | _,_=>none
def asli (P:Program) (ρ:Rho) (t:TypeId) (a:AV) (lo hi mx:Option Operand):Option AV:=
 match und P t,a with
 | some .string,.s n x=>match obd ρ lo,obd ρ hi,mx with
   | some l,some h,none=>bif Nat.ble (h.getD n) n && Nat.ble (l.getD 0) (h.getD n)then
    some (.s (h.getD n - l.getD 0) (Nat.mod (Nat.shiftRight x (8*l.getD 0)) (2 ^ (8*(h.getD n - l.getD 0)))))else none
   | _,_,_=>none
 | some (.slice e),.sl id off n cap es pre=>match obd ρ lo,obd ρ hi,obd ρ mx,szo P e with
   | some l,some h,some m,some s=>bif Nat.beq s es then aslc id off n cap es pre l h m else none
   | _,_,_,_=>none
 | some (.slice e),.nsl=>match obd ρ lo,obd ρ hi,mx,szo P e with
   | some l,some h,none,some _=>bif Nat.beq (l.getD 0) 0 && Nat.beq (h.getD 0) 0 then some .nsl else none
   | _,_,_,_=>none
 | _,_=>none
def alen (P:Program) (t:TypeId) (a:AV):Option AV:=
 match und P t,a with
 | some .string,.s n _=>some (.i .i64 (.ofNat n))
 | some (.slice _),.sl _ _ n _ _ _=>some (.i .i64 (.ofNat n))
 | some (.slice _),.nsl=>some (.i .i64 (.ofNat 0))
 | some (.array n _),_=>some (.i .i64 (.ofNat n))
 | _,_=>none
def acap (P:Program) (t:TypeId) (a:AV):Option AV:=
 match und P t,a with
 | some (.slice _),.sl _ _ _ (some c) _ _=>some (.i .i64 (.ofNat c))
 | some (.slice _),.nsl=>some (.i .i64 (.ofNat 0))
 | _,_=>none
def asld:AV→Option AV
 | .nsl=>some .np
 | .sl id off n _ _ _=>bif Nat.beq n 0 then none else some (.p id off)
 | _=>none
def abul (P:Program) (b:Builtin) (ts:List TypeId) (as:List AV):Option AV:=
 match b,ts,as with
 | .len,t :: _,a :: _=>alen P t a
 | .cap,t :: _,a :: _=>acap P t a
 | .max,_,a :: r=>amm true r a
 | .min,_,a :: r=>amm false r a
 | .unsafeSliceData,_,[a]=>asld a
 | _,_,_=>none
def apure (P:Program) (ρ:Rho):Op→Option AV
 | .move x=>ρ x
 | .assign x=>ρ x
 | .pick c a b=>match ρ c with
   | some (.b x)=>bif x then ρ a else ρ b
   | _=>none
 | .nilCheck x=>match ρ x with
   | some (.p id off)=>some (.p id off)
   | some (.fn (.func f) a c)=>some (.fn (.func f) a c)
   | some (.ifc t v)=>some (.ifc t v)
   | _=>none
 | .binOp op t x y _=>match ρ x,ρ y with
   | some a,some b=>abin P op t x y a b
   | _,_=>none
 | .unOp op _ x=>match op,ρ x with
   | .not,some (.b x)=>some (.b (!x))
   | .neg,some (.i k n)=>some (.i k (iwrap k (0 - n)))
   | .xor,some (.i k n)=>some (.i k (k.wrap ((BitVec.ofInt k.bits (if k.signed then -1 else k.max)) ^^^ (BitVec.ofInt k.bits n)).toNat))
   | _,_=>none
 | .convert s d x=>match ρ x with
   | some a=>acv P s d a
   | none=>none
 | .makeInterface t x=>match und P t,ρ x with
   | some d,some a=>match d with
     | .interface _=>none
     | _=>some (.ifc t a)
   | _,_=>none
 | .makeFunc f a c=>match amap ρ a.toList,amap ρ c.toList with
   | some a,some c=>some (.fn f a c)
   | _,_=>none
 | .fieldAddr s x f=>match ρ x with
   | some a=>afda P s a f
   | none=>none
 | .field t x f=>match ρ x with
   | some a=>afld P t a f
   | none=>none
 | .indexAddr t x ix=>match ρ x,bd ρ ix with
   | some a,some i=>aixa P t a i
   | _,_=>none
 | .index t x ix=>match ρ x,bd ρ ix with
   | some a,some i=>aidx P t a i
   | _,_=>none
 | .slice t x lo hi mx=>match ρ x with
   | some a=>asli P ρ t a lo hi mx
   | none=>none
 | .extract x i=>match ρ x with
   | some (.tp l)=>nth l i
   | _=>none
 | .build t ps=>match aprt ρ ps.toList with
   | some l=>abuild P t l
   | none=>none
 | .call c=>match c.callee with
   | .builtin b=>match amap ρ c.args.toList with
     | some as=>abul P b c.argTypes.toList as
     | none=>none
   | _=>none
 | _=>none
theorem acv_ok {m:Map}{s d:TypeId}{a r:AV}{v:Value}(h:acv P s d a=some r) (ha:cvo m a=some v):∃ z,cvo m r=some z∧∀ w,(convert s d v).run P w=.ok z w:=by
 unfold acv at h
 split at h
 ·rename_i k _ n hs hd
  obtain rfl:=Option.some.inj h
  simp only[cvo,Option.some.injEq]at ha;subst ha
  refine ⟨_,rfl,fun w=>?_⟩
  simp[convert,run_und hs,run_und hd,Conv.intToInt,iwrap_eq]
 ·rename_i n x hs hd
  obtain rfl:=Option.some.inj h
  refine ⟨v,ha,fun w=>?_⟩
  simp only[cvo,Option.ite_none_right_eq_some,Option.some.injEq]at ha
  obtain ⟨_,rfl⟩:=ha
  simp only[convert,Sem.run_bind,run_und hs,run_und hd,Result.andThen_ok]
  rfl
 ·cases h
theorem afda_ok {m:Map}{s:TypeId}{a r:AV}{f:Nat}{v:Value}(h:afda P s a f=some r) (ha:cvo m a=some v):∃ z,cvo m r=some z∧∀ w,(Instr.fieldAt s v f).run P w=.ok z w:=by
 unfold afda at h
 split at h
 ·rename_i fs id off hs
  split at h
  ·rename_i fd hf
   split at h
   ·rename_i n hn
    cases hb:Nat.beq n 0 with
    | true=>rw[hb]at h;cases h
    | false=>
      rw[hb,cond_false]at h
      obtain rfl:=Option.some.inj h
      have hn0:n≠0:=by rw[Bool.eq_false_iff,Ne,Nat.beq_eq]at hb;exact hb
      simp only[cvo,Option.map_eq_some_iff]at ha
      obtain ⟨L,hL,rfl⟩:=ha
      rw[nth_eq,Array.getElem?_toList]at hf
      refine ⟨.pointer (some ⟨L.b,L.s+(off+fd.offset),none⟩),by simp[cvo,hL],fun w=>?_⟩
      simp[Instr.fieldAt,run_und hs,hf,Instr.sureAddr,fieldPlace,run_szo hn,hn0,addr_add,Nat.add_assoc]
   ·cases h
  ·cases h
 ·cases h
theorem afld_ok {m:Map}{t:TypeId}{a r:AV}{f:Nat}{v:Value}(h:afld P t a f=some r) (ha:cvo m a=some v):∃ z,cvo m r=some z∧∀ w,(Instr.field t v f).run P w=.ok z w:=by
 unfold afld at h
 split at h
 ·rename_i fs l hs
  split at h
  ·rename_i fd hf
   simp only[cvo,Option.map_eq_some_iff]at ha
   obtain ⟨vs,hl,rfl⟩:=ha
   rw[nth_eq,Array.getElem?_toList]at hf
   obtain ⟨z,h1,h2⟩:=prt_ok h hl
   refine ⟨z,h1,fun w=>?_⟩
   simp[Instr.field,run_und hs,hf,asAgg,h2]
  ·cases h
 ·cases h
theorem aixa_ok {m:Map}{t:TypeId}{a r:AV}{i:Nat}{v:Value}(h:aixa P t a i=some r) (ha:cvo m a=some v) (k:IntKind):∃ z,cvo m r=some z∧∀ w,(Instr.indexAt t v (.int k (i:Int))).run P w=.ok z w:=by
 unfold aixa at h
 split at h
 ·rename_i n e id off ht
  split at h
  ·rename_i s hs
   cases hb:Nat.blt i n with
   | false=>rw[hb]at h;cases h
   | true=>
     rw[hb,cond_true]at h
     obtain rfl:=Option.some.inj h
     rw[blt_iff]at hb
     simp only[cvo,Option.map_eq_some_iff]at ha
     obtain ⟨L,hL,rfl⟩:=ha
     refine ⟨.pointer (some ⟨L.b,L.s+(off+i*s),none⟩),by simp[cvo,hL],fun w=>?_⟩
     simp[Instr.indexAt,asIntOf,run_und ht,Instr.sureAddr,run_szo hs,hb,addr_add,Nat.add_assoc]
  ·cases h
 ·rename_i e id off n cap es pre ht
  split at h
  ·rename_i s hs
   cases hb:(Nat.beq s es && Nat.blt i n)with
   | false=>rw[hb]at h;cases h
   | true=>
     rw[hb,cond_true]at h
     obtain rfl:=Option.some.inj h
     rw[Bool.and_eq_true,Nat.beq_eq,blt_iff]at hb
     obtain ⟨rfl,hb⟩:=hb
     simp only[cvo,Option.bind_eq_some_iff,Option.ite_none_right_eq_some,Option.some.injEq]at ha
     obtain ⟨L,hL,⟨g1,g2,g3⟩,rfl⟩:=ha
     have hc:cap.getD ((L.e - off) / s)≠0:=by omega
     refine ⟨.pointer (some ⟨L.b,L.s+(off+i*s),none⟩),by simp[cvo,hL],fun w=>?_⟩
     simp[Instr.indexAt,asIntOf,run_und ht,run_szo hs,hb,addr_add,Nat.add_assoc,hc]
  ·cases h
 ·cases h
theorem aidx_ok {m:Map}{t:TypeId}{a r:AV}{i:Nat}{v:Value}(h:aidx P t a i=some r) (ha:cvo m a=some v) (k:IntKind):∃ z,cvo m r=some z∧∀ w,(Instr.index t v (.int k (i:Int))).run P w=.ok z w:=by
 unfold aidx at h
 split at h
 ·rename_i n e l ht
  split at h
  ·rename_i s hs
   cases hb:Nat.blt i n with
   | false=>rw[hb]at h;cases h
   | true=>
     rw[hb,cond_true]at h
     rw[blt_iff]at hb
     simp only[cvo,Option.map_eq_some_iff]at ha
     obtain ⟨vs,hl,rfl⟩:=ha
     obtain ⟨z,h1,h2⟩:=prt_ok h hl
     refine ⟨z,h1,fun w=>?_⟩
     simp[Instr.index,asIntOf,run_und ht,run_szo hs,hb,h2]
  ·cases h
 ·rename_i n x ht
  cases hb:Nat.blt i n with
  | false=>rw[hb]at h;cases h
  | true=>
    rw[hb,cond_true]at h
    obtain rfl:=Option.some.inj h
    rw[blt_iff]at hb
    simp only[cvo,Option.ite_none_right_eq_some,Option.some.injEq]at ha
    obtain ⟨_,rfl⟩:=ha
    refine ⟨_,rfl,fun w=>?_⟩
    have hg:=unp_get n x i hb
    have hg':(ByteArray.mk (unp n x).toArray)[i]?=some (UInt8.ofNat ((x >>> (8*i)) % 256)):=by
     have hsz:i<(ByteArray.mk (unp n x).toArray).size:=by simpa [ByteArray.size,unp_length]using hb
     rw[getElem?_pos (ByteArray.mk (unp n x).toArray) i hsz]
     rw[List.getElem?_eq_some_iff]at hg
     obtain ⟨_,hg⟩:=hg
     rw[← hg];rfl
    simp[Instr.index,asIntOf,run_und ht,hg']
    rfl
 ·cases h
end
end Am
end
section
namespace Am
open Go
noncomputable section
variable {P:Program}
theorem ba_extract (l:List UInt8) (a b:Nat):(ByteArray.mk l.toArray).extract a b=⟨((l.drop a).take (b - a)).toArray⟩:=by
 apply ByteArray.ext
 simp[ByteArray.data_extract,List.extract_eq_take_drop]
theorem asli_ok {m:Map}{ρ:Rho}{ev:Operand→Value}(hρ:RhoOk m ρ ev) {t:TypeId}{a r:AV}{lo hi mx:Option Operand}{v:Value}(h:asli P ρ t a lo hi mx=some r) (ha:cvo m a=some v) :
 ∃ z,cvo m r=some z∧∀ w,(Instr.sliceAt t v (lo.map ev) (hi.map ev) (mx.map ev)).run P w=.ok z w:=by
 unfold asli at h
 split at h
 ·rename_i n x ht
  split at h
  ·rename_i l h' hl hh
   cases hb:(Nat.ble (h'.getD n) n && Nat.ble (l.getD 0) (h'.getD n))with
   | false=>rw[hb]at h;cases h
   | true=>
     rw[hb,cond_true]at h
     obtain rfl:=Option.some.inj h
     rw[Bool.and_eq_true,Nat.ble_eq,Nat.ble_eq]at hb
     simp only[cvo,Option.ite_none_right_eq_some,Option.some.injEq]at ha
     obtain ⟨_,rfl⟩:=ha
     have hlo:=obd_ok hρ hl
     have hhi:=obd_ok hρ hh
     have hsz:(ByteArray.mk (unp n x).toArray).size=n:=by simp[ByteArray.size,unp_length]
     have e:((unp n x).drop (l.getD 0)).take (h'.getD n - l.getD 0)=unp (h'.getD n - l.getD 0) (Nat.mod (Nat.shiftRight x (8*l.getD 0)) (2 ^ (8*(h'.getD n - l.getD 0)))):=by
      rw[unp_drop,unp_take _ _ _ (by omega)];rfl
     refine ⟨.string ⟨(unp (h'.getD n - l.getD 0) (Nat.mod (Nat.shiftRight x (8*l.getD 0)) (2 ^ (8*(h'.getD n - l.getD 0))))).toArray⟩,?_,fun w=>?_⟩
     ·simp only[cvo]
      rw[if_pos]
      rw[pow256];exact Nat.mod_lt _ (Nat.two_pow_pos _)
     ·have hr:=sliceBounds_ok (P:=P) false n n hlo hhi w hb.1 hb.2
      simp only[Option.map_none,Instr.sliceAt,Sem.run_bind,run_und ht,Result.andThen_ok,Instr.slice,Option.isSome_none,Bool.false_eq_true,if_false,hsz,Sem.run_pure]
      rw[hr]
      simp only[Result.andThen_ok,Sem.run_pure,ba_extract,e]
  ·cases h
 ·rename_i e id off n cap es pre ht
  split at h
  ·rename_i l h' m' s hl hh hm hs
   cases hb:Nat.beq s es with
   | false=>rw[hb]at h;cases h
   | true=>
     rw[hb,cond_true]at h
     rw[Nat.beq_eq]at hb;subst hb
     exact aslc_ok h ha (obd_ok hρ hl) (obd_ok hρ hh) (obd_ok hρ hm) ht hs
  ·cases h
 ·rename_i e ht
  split at h
  ·rename_i l h' s hl hh hs
   cases hb:(Nat.beq (l.getD 0) 0 && Nat.beq (h'.getD 0) 0)with
   | false=>rw[hb]at h;cases h
   | true=>
     rw[hb,cond_true]at h
     rw[Bool.and_eq_true,Nat.beq_eq,Nat.beq_eq]at hb
     obtain rfl:=Option.some.inj h
     simp only[cvo,Option.some.injEq]at ha;subst ha
     refine ⟨_,rfl,fun w=>?_⟩
     have hr:=sliceBounds_ok (P:=P) true 0 0 (obd_ok hρ hl) (obd_ok hρ hh) w (by omega) (by omega)
     rw[hb.1,hb.2]at hr
     simp[Instr.sliceAt,run_und ht,Instr.slice,hr,run_szo hs]
  ·cases h
 ·cases h
theorem abul_ok {m:Map}{b:Builtin}{ts:Array TypeId}{as:List AV}{vs:List Value}{r:AV}(h:abul P b ts.toList as=some r) (ha:cvs m as=some vs) (ty:TypeId) (cs:Array Bool) :
 ∃ z,cvo m r=some z∧∀ w,(builtin b ts ty cs vs.toArray).run P w=.ok (.value z) w:=by
 obtain ⟨ts⟩:=ts
 unfold abul at h
 split at h
 ·rename_i t ts' a as' heq
  simp only at heq;subst heq
  obtain ⟨v,vs',h1,h2,rfl⟩:=cvs_cons.1 ha
  unfold alen at h
  split at h
  ·rename_i n x ht
   obtain rfl:=Option.some.inj h
   simp only[cvo,Option.ite_none_right_eq_some,Option.some.injEq]at h1
   obtain ⟨_,rfl⟩:=h1
   have hsz:(ByteArray.mk (unp n x).toArray).size=n:=by simp[ByteArray.size,unp_length]
   exact ⟨_,rfl,fun w=>by simp[builtin,Builtin.len_,run_und ht,goInt,hsz]⟩
  ·rename_i e id off n cap es pre ht
   obtain rfl:=Option.some.inj h
   simp only[cvo,Option.bind_eq_some_iff,Option.ite_none_right_eq_some,Option.some.injEq]at h1
   obtain ⟨L,hL,_,rfl⟩:=h1
   exact ⟨_,rfl,fun w=>by simp[builtin,Builtin.len_,run_und ht,goInt]⟩
  ·rename_i e ht
   obtain rfl:=Option.some.inj h
   simp only[cvo,Option.some.injEq]at h1;subst h1
   exact ⟨_,rfl,fun w=>by simp[builtin,Builtin.len_,run_und ht,goInt]⟩
  ·rename_i n e ht
   obtain rfl:=Option.some.inj h
   exact ⟨_,rfl,fun w=>by simp[builtin,Builtin.len_,run_und ht,goInt]⟩
  ·cases h
 ·rename_i t ts' a as' heq
  simp only at heq;subst heq
  obtain ⟨v,vs',h1,h2,rfl⟩:=cvs_cons.1 ha
  unfold acap at h
  split at h
  ·rename_i e id off n c es pre ht
   obtain rfl:=Option.some.inj h
   simp only[cvo,Option.bind_eq_some_iff,Option.ite_none_right_eq_some,Option.some.injEq,Option.getD_some]at h1
   obtain ⟨L,hL,_,rfl⟩:=h1
   exact ⟨_,rfl,fun w=>by simp[builtin,Builtin.cap_,run_und ht,goInt]⟩
  ·rename_i e ht
   obtain rfl:=Option.some.inj h
   simp only[cvo,Option.some.injEq]at h1;subst h1
   exact ⟨_,rfl,fun w=>by simp[builtin,Builtin.cap_,run_und ht,goInt]⟩
  ·cases h
 ·obtain ⟨v,vs',h1,h2,rfl⟩:=cvs_cons.1 ha
  obtain ⟨z,f1,f2⟩:=amm_max (P:=P) h2 h1 h
  exact ⟨z,f1,fun w=>by simp[builtin,Builtin.max_,f2]⟩
 ·obtain ⟨v,vs',h1,h2,rfl⟩:=cvs_cons.1 ha
  obtain ⟨z,f1,f2⟩:=amm_min (P:=P) h2 h1 h
  exact ⟨z,f1,fun w=>by simp[builtin,Builtin.min_,f2]⟩
 ·obtain ⟨v,vs',h1,h2,rfl⟩:=cvs_cons.1 ha
  simp[cvs]at h2;subst h2
  unfold asld at h
  split at h
  ·obtain rfl:=Option.some.inj h
   simp only[cvo,Option.some.injEq]at h1;subst h1
   exact ⟨_,rfl,fun w=>rfl⟩
  ·rename_i id off n cap es pre
   cases hb:Nat.beq n 0 with
   | true=>rw[hb]at h;cases h
   | false=>
     rw[hb,cond_false]at h
     obtain rfl:=Option.some.inj h
     have hn0:n≠0:=by rw[Bool.eq_false_iff,Ne,Nat.beq_eq]at hb;exact hb
     simp only[cvo,Option.bind_eq_some_iff,Option.ite_none_right_eq_some,Option.some.injEq]at h1
     obtain ⟨L,hL,⟨g1,g2,g3⟩,rfl⟩:=h1
     have hc:cap.getD ((L.e - off) / es)≠0:=by omega
     refine ⟨.pointer (some ⟨L.b,L.s+off,none⟩),by simp[cvo,hL],fun w=>?_⟩
     rw[if_neg hc,Nat.sub_zero]
     have e:∀ (A:Addr) (n c:Nat),Builtin.unsafeSliceData_ ⟨ts⟩ ty [Value.slice (some A) n c].toArray=(do
      if c≠0 then pure (.pointer (some A))
      else if (← viewAt A.block).isSome then pure (.pointer (some A))
      else pure (.pointer (some ⟨← newObj (.view A (← elemOf ty)),0,none⟩))):=fun _ _ _=>rfl
     simp only[builtin,e,if_pos hc];rfl
  ·cases h
 ·cases h
theorem apure_ok {m:Map}{ρ:Rho}{ev:Operand→Value}(hρ:RhoOk m ρ ev) {o:Oper}{r:AV}(h:apure P ρ o.op=some r) :
 ∃ z,cvo m r=some z∧∀ w,(execOp ev o).run P w=.ok (.value z) w:=by
 obtain ⟨dst,op,type,pos,after,guard⟩:=o
 cases op<;>simp only[apure,reduceCtorEq]at h<;>simp only[execOp]
 case move x=>exact ⟨_,hρ _ _ h,fun w=>rfl⟩
 case assign x=>exact ⟨_,hρ _ _ h,fun w=>rfl⟩
 case pick c a b=>
  split at h
  ·rename_i x hx
   have:=hρ _ _ hx
   simp only[cvo,Option.some.injEq]at this
   cases x with
   | true=>exact ⟨_,hρ _ _ h,fun w=>by simp[← this,asBool]⟩
   | false=>exact ⟨_,hρ _ _ h,fun w=>by simp[← this,asBool]⟩
  ·cases h
 case nilCheck x=>
  split at h
  ·rename_i id off hx
   obtain rfl:=Option.some.inj h
   have:=hρ _ _ hx
   refine ⟨_,this,fun w=>?_⟩
   simp only[cvo,Option.map_eq_some_iff]at this
   obtain ⟨L,_,e⟩:=this
   rw[← e];rfl
  ·rename_i f a c hx
   obtain rfl:=Option.some.inj h
   have:=hρ _ _ hx
   refine ⟨_,this,fun w=>?_⟩
   simp only[cvo,Option.map_eq_some_iff,Option.bind_eq_some_iff]at this
   obtain ⟨_,_,_,_,e⟩:=this
   rw[← e];rfl
  ·rename_i t v hx
   obtain rfl:=Option.some.inj h
   have:=hρ _ _ hx
   refine ⟨_,this,fun w=>?_⟩
   simp only[cvo,Option.map_eq_some_iff]at this
   obtain ⟨_,_,e⟩:=this
   rw[← e];rfl
  ·cases h
 case binOp op t x y t'=>
  split at h
  ·rename_i a b ha hb
   obtain ⟨z,h1,h2⟩:=abin_ok h (hρ _ _ ha) (hρ _ _ hb)
   refine ⟨z,h1,fun w=>?_⟩
   have:=h2 w
   simp only[Sem.run_bind]at this ⊢
   rw[this];rfl
  ·cases h
 case unOp op t x=>
  split at h
  ·rename_i b hx
   obtain rfl:=Option.some.inj h
   have:=hρ _ _ hx
   simp only[cvo,Option.some.injEq]at this
   exact ⟨_,rfl,fun w=>by rw[← this];simp[Op.unary]⟩
  ·rename_i k n hx
   obtain rfl:=Option.some.inj h
   have:=hρ _ _ hx
   simp only[cvo,Option.some.injEq]at this
   exact ⟨_,rfl,fun w=>by rw[← this];simp[Op.unary,Op.intArith,iwrap_eq]⟩
  ·rename_i k n hx
   obtain rfl:=Option.some.inj h
   have:=hρ _ _ hx
   simp only[cvo,Option.some.injEq]at this
   exact ⟨_,rfl,fun w=>by rw[← this];rfl⟩
  ·cases h
 case convert s d x=>
  split at h
  ·rename_i a ha
   obtain ⟨z,h1,h2⟩:=acv_ok h (hρ _ _ ha)
   exact ⟨z,h1,fun w=>by simp[h2]⟩
  ·cases h
 case makeInterface t x=>
  split at h
  ·rename_i d a hd ha
   split at h
   ·cases h
   ·obtain rfl:=Option.some.inj h
    rename_i hni
    refine ⟨.iface t (ev x),by simp[cvo,hρ _ _ ha],fun w=>?_⟩
    simp only[Sem.run_bind,Instr.makeInterface,run_und hd,Result.andThen_ok]
    cases d<;>first|rfl|exact absurd rfl (hni _)
  ·cases h
 case makeFunc f a c=>
  split at h
  ·rename_i a' c' ha hc
   obtain rfl:=Option.some.inj h
   refine ⟨.func f (a.map ev) (c.map ev),?_,fun w=>rfl⟩
   simp only[cvo,amap_ok hρ ha,amap_ok hρ hc,Option.bind_some,Option.map_some]
   have ea:(List.map ev a.toList).toArray=a.map ev:=by apply Array.ext';simp
   have ec:(List.map ev c.toList).toArray=c.map ev:=by apply Array.ext';simp
   rw[ea,ec]
  ·cases h
 case fieldAddr s x f=>
  split at h
  ·rename_i a ha
   obtain ⟨z,h1,h2⟩:=afda_ok h (hρ _ _ ha)
   exact ⟨z,h1,fun w=>by simp[h2]⟩
  ·cases h
 case field t x f=>
  split at h
  ·rename_i a ha
   obtain ⟨z,h1,h2⟩:=afld_ok h (hρ _ _ ha)
   exact ⟨z,h1,fun w=>by simp[h2]⟩
  ·cases h
 case indexAddr t x ix=>
  split at h
  ·rename_i a i ha hi
   obtain ⟨k,hk⟩:=bd_ok hρ hi
   obtain ⟨z,h1,h2⟩:=aixa_ok h (hρ _ _ ha) k
   exact ⟨z,h1,fun w=>by simp[hk,h2]⟩
  ·cases h
 case index t x ix=>
  split at h
  ·rename_i a i ha hi
   obtain ⟨k,hk⟩:=bd_ok hρ hi
   obtain ⟨z,h1,h2⟩:=aidx_ok h (hρ _ _ ha) k
   exact ⟨z,h1,fun w=>by simp[hk,h2]⟩
  ·cases h
 case slice t x lo hi mx=>
  split at h
  ·rename_i a ha
   obtain ⟨z,h1,h2⟩:=asli_ok hρ h (hρ _ _ ha)
   exact ⟨z,h1,fun w=>by simp[h2]⟩
  ·cases h
 case extract x i=>
  split at h
  ·rename_i l hx
   have:=hρ _ _ hx
   simp only[cvo,Option.map_eq_some_iff]at this
   obtain ⟨vs,hl,e⟩:=this
   rw[nth_eq]at h
   obtain ⟨z,h1,h2⟩:=cvs_get hl h
   exact ⟨z,h2,fun w=>by simp[← e,Instr.extract,h1]⟩
  ·cases h
 case build t ps=>
  split at h
  ·rename_i l hl
   have hp:=aprt_ok hρ hl
   obtain ⟨z,h1,h2⟩:=abuild_ok (qs:=ps.map fun x=>(x.1,ev x.2)) h (by simpa using hp)
   exact ⟨z,h1,fun w=>by simp[h2]⟩
  ·cases h
 case call c=>
  split at h
  ·rename_i b hb
   split at h
   ·rename_i as has
    obtain ⟨z,h1,h2⟩:=abul_ok h (amap_ok hρ has) type (c.args.map fun | .const _=>true|_=>false)
    refine ⟨z,h1,fun w=>?_⟩
    have e:(c.args.toList.map ev).toArray=c.args.map ev:=by apply Array.ext';simp
    rw[e]at h2
    simp only[resolve,hb,Sem.run_bind,Sem.run_pure,Result.andThen_ok,invoke]
    exact h2 w
   ·cases h
  ·cases h
end
end Am
end
section
namespace Am
open Go
noncomputable section
variable {P:Program}
def ald (P:Program) (t:TypeId) (cs:List AV) (off:Nat):Option AV:=
 match und P t,szo P t with
 | some d,some n=>bif isA d then (bif Nat.beq (len (tke n (drp off cs))) n then some (.ag (tke n (drp off cs)))else none)else nth cs off
 | _,_=>none
theorem cell_at {w:World}{b o:Nat}{c:Array Value}{t:TypeId}{fr:Nat × Nat}{v:Value}(h:w.heap[b]?=some (.cells c t fr)) (hv:c[o]?=some v):w.cell? ⟨b,o,none⟩=some v:=by
 simp[World.cell?,h,hv]
theorem ald_ok {m:Map}{lk:Lk}{w:World}(hR:R lk m w) {id off fz:Nat}{ex:Bool}{t t':TypeId}{cs:List AV}{a:AV}{u:Value}(hlk:lk id=some (.cells t' cs fz ex)) (h:ald P t cs off=some a) (hu:cvo m (.p id off)=some u) :
 ∃ v,cvo m a=some v∧(Instr.loadAt t u).run P w=.ok v w:=by
 obtain ⟨L,c,fr,vs,h1,h2,h3,h4,h5,h6,_⟩:=hR.holds _ _ hlk
 simp only[cvo,h1,Option.map_some,Option.some.injEq]at hu
 subst hu
 unfold ald at h
 split at h
 ·rename_i d n hd hn
  cases hA:isA d with
  | true=>
    rw[hA,cond_true]at h
    cases hb:Nat.beq (len (tke n (drp off cs))) n with
    | false=>rw[hb]at h;cases h
    | true=>
      rw[hb,cond_true]at h
      obtain rfl:=Option.some.inj h
      rw[Nat.beq_eq,len_eq,tke_eq,drp_eq]at hb
      have hvs:=cvs_take n (cvs_drop off h5)
      have hlen:=cvs_length hvs
      refine ⟨.agg ((vs.drop off).take n).toArray,by simp[cvo,tke_eq,drp_eq,hvs],?_⟩
      have hcell:∀ j v,((vs.drop off).take n)[j]?=some v→w.cell? ((⟨L.b,L.s+off,none⟩:Addr).add j)=some v:=by
       intro j v hj
       rw[addr_add]
       rw[List.getElem?_take]at hj
       split at hj
       ·rw[List.getElem?_drop]at hj
        have:=h6 _ _ hj
        rw[← Nat.add_assoc]at this
        exact cell_at h2 this
       ·cases hj
      have hl:=run_loadCells_list (P:=P) (w:=w) ⟨L.b,L.s+off,none⟩ _ hcell
      rw[hlen,hb]at hl
      unfold Instr.loadAt Instr.sureAddr loadVar
      simp only[Sem.run_bind,Sem.run_pure,Result.andThen_ok,run_isA hd,hA,if_true,run_szo hn,hl]
  | false=>
    rw[hA,cond_false,nth_eq]at h
    obtain ⟨v,f1,f2⟩:=cvs_get h5 h
    refine ⟨v,f2,?_⟩
    have:=h6 _ _ f1
    unfold Instr.loadAt Instr.sureAddr loadVar
    simp only[Sem.run_bind,Sem.run_pure,Result.andThen_ok,run_isA hd,hA,Bool.false_eq_true,if_false,run_load,cell_at h2 this]
 ·cases h
def asame:TypeDesc→AV→AV→Option Bool
 | .int _,.i k a,.i k' b=>bif keq k k' then some (ieq a b)else none
 | .string,.s n x,.s k y=>some (Nat.beq n k && Nat.beq x y)
 | .bool,.b x,.b y=>some (x == y)
 | _,_,_=>none
theorem asame_ok {m:Map}{d:TypeDesc}{a b:AV}{u v:Value}{r:Bool}(h:asame d a b=some r) (ha:cvo m a=some u) (hb:cvo m b=some v):Instr.sameNow d u v=some r:=by
 unfold asame at h
 split at h
 all_goals try simp only[cvo,Option.ite_none_right_eq_some,Option.some.injEq]at ha hb
 ·rename_i k a k' b
  subst ha hb
  cases hk:keq k k' with
  | false=>rw[hk]at h;cases h
  | true=>
    rw[hk,cond_true]at h
    have:=keq_eq hk;subst this
    obtain rfl:=Option.some.inj h
    simp[Instr.sameNow,ieq_eq]
 ·obtain ⟨hx,rfl⟩:=ha
  obtain ⟨hy,rfl⟩:=hb
  obtain rfl:=Option.some.inj h
  simp only[Instr.sameNow]
  rw[beq_toListBytes,ba_toList,ba_toList,unp_eq_iff hx hy]
 ·subst ha hb
  obtain rfl:=Option.some.inj h
  rfl
 ·cases h
def kOk:TypeDesc→Bool
 | .int _ | .string | .bool=>true
 | _=>false
def ackF (P:Program) (l:List AV):List Field→Bool
 | []=>true
 | f :: fs=>(match und P f.type,prt P f.type l f.offset with
   | some d,some _=>kOk d
   | _,_=>false) && ackF P l fs
def ack (P:Program) (d:TypeDesc) (k:AV):Bool:=
 match d,k with
 | .struct fs,.ag l=>ackF P l fs.toList
 | .struct _,_=>false
 | d,_=>kOk d
theorem checkKey_plain {t:TypeId}{d:TypeDesc}(hd:und P t=some d) (hk:kOk d=true) (b:Bool) (n:Nat) (v:Value) (w:World):(Instr.checkKey b (n+1) t v).run P w=.ok () w:=by
 unfold Instr.checkKey
 simp only[Sem.run_bind,run_und hd,Result.andThen_ok]
 cases d<;>simp[kOk]at hk<;>rfl
theorem checkKey_fields {m:Map}{l:List AV}{vs:List Value}(hl:cvs m l=some vs) (b:Bool) (n:Nat):∀ (fs:List Field) (w:World),ackF P l fs=true →
 (forIn fs PUnit.unit (fun f (_:PUnit)=>(if f.name≠"_" then do
  let y ← part f.type vs.toArray f.offset
  Instr.checkKey b (n+1) f.type y
  pure (ForInStep.yield PUnit.unit)else pure (ForInStep.yield PUnit.unit):Sem (ForInStep PUnit)))).run P w=.ok PUnit.unit w
 | [],w,h=>rfl
 | f :: fs,w,h=>by
   simp only[ackF,Bool.and_eq_true]at h
   obtain ⟨h1,h2⟩:=h
   rw[List.forIn_cons]
   split at h1
   ·rename_i d a hd ha
    obtain ⟨v,_,hv⟩:=prt_ok ha hl
    have ih:=checkKey_fields hl b n fs w h2
    by_cases hn:f.name≠"_"
    ·rw[if_pos hn]
     simp only[Sem.run_bind,hv,Result.andThen_ok,checkKey_plain hd h1,Sem.run_pure]
     exact ih
    ·rw[if_neg hn]
     simp only[Sem.run_bind,Sem.run_pure,Result.andThen_ok]
     exact ih
   ·cases h1
theorem checkKey_ok {m:Map}{t:TypeId}{d:TypeDesc}(hd:und P t=some d) {k:AV}{kv:Value}(h:ack P d k=true) (hk:cvo m k=some kv) (b:Bool) (w:World):(Instr.checkKey b 10000 t kv).run P w=.ok () w:=by
 unfold ack at h
 split at h
 ·rename_i fs l
  simp only[cvo,Option.map_eq_some_iff]at hk
  obtain ⟨vs,hl,rfl⟩:=hk
  unfold Instr.checkKey
  simp only[Sem.run_bind,run_und hd,Result.andThen_ok]
  rw[← Array.forIn_toList]
  have:=checkKey_fields (P:=P) hl b 9998 fs.toList w h
  simp only[bind_pure_comp,map_pure]at this ⊢
  rw[this];rfl
 ·cases h
 ·exact checkKey_plain hd h b 9999 kv w
def acmp (P:Program) (kt:TypeId) (d:TypeDesc) (a b:AV):Option Bool:=
 match d with
 | .struct fs=>match a,b with
   | .ag l,.ag k=>bif P.stoodInHeld kt then none else aeqF P l k fs.toList
   | _,_=>none
 | d=>asame d a b
def afnd (P:Program) (kt:TypeId) (d:TypeDesc) (k:AV):List (AV × AV × Nat)→Nat→Option (Option (Nat × AV))
 | [],_=>some none
 | e :: es,i=>match acmp P kt d k e.1 with
   | some true=>some (some (i,e.2.1))
   | some false=>afnd P kt d k es (Nat.succ i)
   | none=>none
def isS:TypeDesc→Bool
 | .struct _=>true
 | _=>false
theorem acmp_plain {kt:TypeId}{d:TypeDesc}(hd:isS d=false) (a b:AV):acmp P kt d a b=asame d a b:=by
 cases d<;>first|rfl|cases hd
theorem fndNow {m:Map}{kt:TypeId}{d:TypeDesc}(hd:isS d=false) {k:AV}{kv:Value}(hk:cvo m k=some kv):∀ {es:List (AV × AV × Nat)}{es':List MapEntry}{i:Nat}{r:Option (Nat × AV)},F2 (EntOk m) es es'→afnd P kt d k es i=some r →
 ∃ r',Instr.findNow d kv es' i=some r'∧((r=none∧r'=none)∨∃ j a v,r=some (j,a)∧r'=some (j,v)∧cvo m a=some v∧i≤j∧∃ e,es[j - i]?=some e∧e.2.1=a)
 | _,_,i,r,.nil,h=>by
   simp[afnd]at h;subst h;exact ⟨none,rfl,.inl ⟨rfl,rfl⟩⟩
 | e :: es,e' :: es',i,r,.cons h1 h2,h=>by
   simp only[afnd,acmp_plain hd]at h
   split at h
   ·rename_i hs
    obtain rfl:=Option.some.inj h
    have:=asame_ok hs hk h1.1
    exact ⟨some (i,e'.val),by simp[Instr.findNow,this],.inr ⟨i,e.2.1,e'.val,rfl,rfl,h1.2.1,Nat.le_refl _,e,by simp,rfl⟩⟩
   ·rename_i hs
    have:=asame_ok hs hk h1.1
    obtain ⟨r',f1,f2⟩:=fndNow hd hk h2 h
    refine ⟨r',by simp[Instr.findNow,this,f1],?_⟩
    rcases f2 with h3|⟨j,a,v,h3,h4,h5,h6,e0,h7,h8⟩
    ·exact .inl h3
    ·refine .inr ⟨j,a,v,h3,h4,h5,by omega,e0,?_,h8⟩
     rw[show j - i=(j - (i+1))+1 by omega,List.getElem?_cons_succ];exact h7
   ·cases h
theorem fndAsk {m:Map}{kt:TypeId}{fs:Array Field}(hu:und P kt=some (.struct fs)) {k:AV}{kv:Value}(hk:cvo m k=some kv) (w:World):∀ {es:List (AV × AV × Nat)}{es':List MapEntry}{i:Nat}{r:Option (Nat × AV)},F2 (EntOk m) es es'→afnd P kt (.struct fs) k es i=some r →
 ∃ r',(Instr.findAsking kt kv es' i).run P w=.ok r' w∧((r=none∧r'=none)∨∃ j a v,r=some (j,a)∧r'=some (j,v)∧cvo m a=some v∧i≤j∧∃ e,es[j - i]?=some e∧e.2.1=a)
 | _,_,i,r,.nil,h=>by
   simp[afnd]at h;subst h;exact ⟨none,rfl,.inl ⟨rfl,rfl⟩⟩
 | e :: es,e' :: es',i,r,.cons h1 h2,h=>by
   have heq:∀ b,acmp P kt (.struct fs) k e.1=some b→(Op.equal kt kv e'.key).run P w=.ok b w:=by
    intro b hb
    unfold acmp at hb
    simp only at hb
    split at hb
    ·rename_i l k' hke
     cases hst:P.stoodInHeld kt with
     | true=>rw[hst]at hb;cases hb
     | false=>
       rw[hst,cond_false]at hb
       have h11:=h1.1
       rw[hke]at h11
       simp only[cvo,Option.map_eq_some_iff]at hk h11
       obtain ⟨us,g1,rfl⟩:=hk
       obtain ⟨vs,g2,g3⟩:=h11
       rw[← g3]
       have hf:P.fieldsOf kt=fs:=by simp[Program.fieldsOf,und_ok hu]
       have he:=run_equalIn_struct (P:=P) w 9999 kt us.toArray vs.toArray (by rw[hf];exact und_ok hu) hst
       rw[hf,aeqF_ok g1 g2 9998 w hb]at he
       exact he
    ·cases hb
   simp only[afnd]at h
   split at h
   ·rename_i hs
    obtain rfl:=Option.some.inj h
    have:=heq true hs
    refine ⟨some (i,e'.val),?_,.inr ⟨i,e.2.1,e'.val,rfl,rfl,h1.2.1,Nat.le_refl _,e,by simp,rfl⟩⟩
    unfold Instr.findAsking
    simp[this]
   ·rename_i hs
    have:=heq false hs
    obtain ⟨r',f1,f2⟩:=fndAsk hu hk w h2 h
    refine ⟨r',?_,?_⟩
    ·unfold Instr.findAsking
     simp only[Sem.run_bind,this,Result.andThen_ok,Bool.false_eq_true,if_false]
     exact f1
    rcases f2 with h3|⟨j,a,v,h3,h4,h5,h6,e0,h7,h8⟩
    ·exact .inl h3
    ·refine .inr ⟨j,a,v,h3,h4,h5,by omega,e0,?_,h8⟩
     rw[show j - i=(j - (i+1))+1 by omega,List.getElem?_cons_succ];exact h7
   ·cases h
theorem fnd_ok {m:Map}{kt:TypeId}{d:TypeDesc}(hu:und P kt=some d) {k:AV}{kv:Value}(hk:cvo m k=some kv) (w:World) {es:List (AV × AV × Nat)}{es':List MapEntry}{r:Option (Nat × AV)}(hE:F2 (EntOk m) es es') (h:afnd P kt d k es 0=some r) :
 ∃ r',(Instr.findKey kt kv es').run P w=.ok r' w∧((r=none∧r'=none)∨∃ j a v,r=some (j,a)∧r'=some (j,v)∧cvo m a=some v∧∃ e,es[j]?=some e∧e.2.1=a):=by
 have fin:∀ r',((r=none∧r'=none)∨∃ j a v,r=some (j,a)∧r'=some (j,v)∧cvo m a=some v∧0≤j∧∃ e,es[j - 0]?=some e∧e.2.1=a) →
  ((r=none∧r'=none)∨∃ j a v,r=some (j,a)∧r'=some (j,v)∧cvo m a=some v∧∃ e,es[j]?=some e∧e.2.1=a):=by
  rintro r' (h|⟨j,a,v,h1,h2,h3,_,e,h4,h5⟩)
  ·exact .inl h
  ·exact .inr ⟨j,a,v,h1,h2,h3,e,h4,h5⟩
 cases hS:isS d with
 | false=>
   obtain ⟨r',h1,h2⟩:=fndNow hS hk hE h
   exact ⟨r',by unfold Instr.findKey;simp[run_und hu,h1],fin r' h2⟩
 | true=>
   obtain ⟨fs,rfl⟩:∃ fs,d=.struct fs:=by cases d<;>first|exact ⟨_,rfl⟩|cases hS
   cases hE with
   | nil=>
     simp[afnd]at h;subst h
     exact ⟨none,by unfold Instr.findKey;simp[run_und hu,Instr.findNow],.inl ⟨rfl,rfl⟩⟩
   | cons h1 h2=>
     rename_i e e' es es'
     obtain ⟨r',f1,f2⟩:=fndAsk hu hk w (.cons h1 h2) h
     refine ⟨r',?_,fin r' f2⟩
     have hno:Instr.findNow (.struct fs) kv (e' :: es') 0=none:=by simp[Instr.findNow,Instr.sameNow]
     unfold Instr.findKey
     simp only[Sem.run_bind,run_und hu,Result.andThen_ok,hno]
     exact f1
def alook (P:Program) (t:TypeId) (lk:Lk) (a k:AV) (ok:Bool):Option AV:=
 match und P t,a with
 | some (.map kt et),.mp id=>match und P kt,lk id with
   | some d,some (.map es _)=>bif ack P d k then (match afnd P kt d k es 0 with
     | some (some (_,v))=>some (bif ok then .tp [v,.b true]else v)
     | some none=>match zero P et with
       | some z=>some (bif ok then .tp [z,.b false]else z)
       | none=>none
     | none=>none)else none
   | _,_=>none
 | some (.map kt et),.nmp=>match und P kt,zero P et with
   | some d,some z=>bif ack P d k then some (bif ok then .tp [z,.b false]else z)else none
   | _,_=>none
 | _,_=>none
theorem alook_ok {m:Map}{lk:Lk}{w:World}(hR:R lk m w) {t:TypeId}{a k r:AV}{ok:Bool}{u kv:Value}(h:alook P t lk a k ok=some r) (ha:cvo m a=some u) (hk:cvo m k=some kv) :
 ∃ v,cvo m r=some v∧(Instr.lookup t u kv ok).run P w=.ok v w:=by
 unfold alook at h
 split at h
 ·rename_i kt et id ht
  split at h
  ·rename_i d es ck hd hlk
   cases hkk:ack P d k with
   | false=>rw[hkk]at h;cases h
   | true=>
     rw[hkk,cond_true]at h
     obtain ⟨L,es',h1,h2,h3⟩:=hR.holds _ _ hlk
     simp only[cvo,h1,Option.map_some,Option.some.injEq]at ha
     subst ha
     split at h
     ·rename_i j v hf
      obtain rfl:=Option.some.inj h
      obtain ⟨r',f0,f⟩:=fnd_ok hd hk w h3 hf
      rcases f with ⟨hh,_⟩|⟨j',a',v',hh,rfl,f1,_⟩
      ·cases hh
      ·obtain ⟨rfl,rfl⟩:=Prod.mk.inj (Option.some.inj hh)
       refine ⟨if ok then .tuple #[v',.bool true]else v',?_,?_⟩
       ·cases ok<;>simp[cvo,cvs,f1]
       ·simp[Instr.lookup,run_und ht,MapKept.run_getObj_map h2,checkKey_ok hd hkk hk,f0]
     ·rename_i hf
      split at h
      ·rename_i z hz
       obtain rfl:=Option.some.inj h
       obtain ⟨zv,hzv,hrun⟩:=zero_ok hz m
       obtain ⟨r',f0,f⟩:=fnd_ok hd hk w h3 hf
       rcases f with ⟨_,rfl⟩|⟨_,_,_,hh,_⟩
       ·refine ⟨if ok then .tuple #[zv,.bool false]else zv,?_,?_⟩
        ·cases ok<;>simp[cvo,cvs,hzv]
        ·simp[Instr.lookup,run_und ht,MapKept.run_getObj_map h2,checkKey_ok hd hkk hk,f0,hrun]
       ·cases hh
      ·cases h
     ·cases h
  ·cases h
 ·rename_i kt et ht
  split at h
  ·rename_i d z hd hz
   cases hkk:ack P d k with
   | false=>rw[hkk]at h;cases h
   | true=>
     rw[hkk,cond_true]at h
     obtain rfl:=Option.some.inj h
     obtain ⟨zv,hzv,hrun⟩:=zero_ok hz m
     simp only[cvo,Option.some.injEq]at ha
     subst ha
     obtain ⟨r',f0,f⟩:=fnd_ok (m:=m) (es:=[]) (es':=[]) (r:=none) hd hk w .nil rfl
     rcases f with ⟨_,rfl⟩|⟨_,_,_,hh,_⟩
     ·refine ⟨if ok then .tuple #[zv,.bool false]else zv,?_,?_⟩
      ·cases ok<;>simp[cvo,cvs,hzv]
      ·simp[Instr.lookup,run_und ht,checkKey_ok hd hkk hk,f0,hrun]
     ·cases hh
  ·cases h
 ·cases h
end
end Am
end
