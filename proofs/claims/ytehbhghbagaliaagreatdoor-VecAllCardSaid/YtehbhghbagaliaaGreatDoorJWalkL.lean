/- Package victuallerlaw1: a text's digits; a number of the draws. And: Package victuallerlaw1: a fraction of the draws; the document's fractions as values. -/
import Derived.Test.YtehbhghbagaliaaGreatDoorJWalkJ
import Derived.Test.YtehbhghbagaliaaGreatDoorJWalkD
import Derived.Test.YtehbhghbagaliaaGreatDoorJWalkB
import Derived.Laws.Rows
import Derived.Laws.Tables
set_option linter.unusedVariables false
set_option linter.unusedSimpArgs false
namespace Vic
open Go Go.RowKit
def Anys (w:World) (e:Ending) (w':World):Prop:=∃ v,e=.returned v∧Below w.heap.size w w'
theorem Gives.any_ {Q:Value→World→Prop}{w w':World}{e:Ending}(h:Gives Q w e w'):Anys w e w':=by
 obtain ⟨x,h1,_,h2⟩:=h
 exact ⟨_,h1,h2⟩
theorem Keeps.any_ {v:Value}{w w':World}{e:Ending}(h:Keeps v w e w'):Anys w e w':=⟨_,h.1,h.2⟩
theorem Rets.any_ {v:Value}{w w':World}{e:Ending}(h:Rets v w e w'):Anys w e w':=h.keeps.any_
theorem len_mul {a b i j k:Nat}(ha:(dgs a).length≤i) (hb:(dgs b).length≤j) (h:i+j≤k):(dgs (a*b)).length≤k:=
 Nat.le_trans (sz_mul a b) (Nat.le_trans (Nat.add_le_add ha hb) h)
theorem sz_120 {n:Nat}(h:n<10 ^ 120):sz n≤13:=digs_length_le (B:=4294967296) (by omega) (Nat.lt_trans h (by decide +kernel))
theorem gcd_120 {n m:Nat}(h1:n<10 ^ 120) (h2:m<10 ^ 120):Nat.gcd n m<10 ^ 120:=by
 rcases Nat.eq_zero_or_pos n with h|h
 ·subst h;rw[Nat.gcd_zero_left];exact h2
 ·exact Nat.lt_of_le_of_lt (Nat.gcd_le_left m h) h1
structure PickInv (n:Nat) (bs:List UInt8):Prop where
 digs:∀ c∈bs,isDig c=true
 len:bs.length≤n
 head:bs.head?≠some 48
theorem PickInv.start (n:Nat):PickInv n []:=⟨(fun c h=>by cases h),by simp,by simp⟩
theorem PickInv.more {n:Nat}{bs:List UInt8}(h:PickInv n bs) {c:UInt8}(hc:isDig c=true) (h0:bs = []→c≠48) (hn:bs.length<n):PickInv n (bs ++ [c]):=by
 refine ⟨fun d hd=>?_,by simp;omega,?_⟩
 ·rcases List.mem_append.1 hd with h1|h1
  ·exact h.digs d h1
  ·rw[List.mem_singleton]at h1;rw[h1];exact hc
 ·match bs,h0,h.head with
  | [],h0,_=>simpa using h0 rfl
  | b :: r,_,hh=>simpa using hh
theorem PickInv.done {n:Nat}{bs:List UInt8}(h:PickInv n bs) (h0:bs≠[]):Canon bs∧bs.length≤n:=⟨⟨h0,h.digs,.inr h.head⟩,h.len⟩
theorem canon_zero:Canon [48]:=by
 have:=dec_canon 0
 rwa [dec_small (u:=0) (by omega)]at this
def GivesDigits (n:Nat) (w:World) (e:Ending) (w':World):Prop:=∃ l:List UInt8,e=.returned (.string ⟨l.toArray⟩)∧Canon l∧l.length≤n∧Below w.heap.size w w'
def GivesN (w:World) (e:Ending) (w':World):Prop:=∃ a b m,e=.returned (.tuple #[a,b])∧NatPtr w' a m∧RefN w' b m∧m<10 ^ 120∧Below w.heap.size w w'
theorem slice_one (l:List UInt8) (k:Nat) (c:UInt8) (h:l[k]?=some c):(⟨l.toArray⟩:ByteArray).extract k (k+1)=⟨#[c]⟩:=by
 have e:=bytes_take (l.take (k+1)) (k+1)
 apply ByteArray.ext
 have hk:k<l.length:=(List.getElem?_eq_some_iff.1 h).1
 have hc:l[k]=c:=(List.getElem?_eq_some_iff.1 h).2
 apply Array.ext'
 simp[ByteArray.extract,ByteArray.copySlice,Array.toList_extract,List.drop_eq_getElem_cons hk,hc]
end Vic
namespace Go.Proofs.YtehbhghbagaliaaGreatDoor
open Go.RowKit Vic
theorem GivesOk.any_ {Q:Value→World→Prop}{w w':World}{e:Ending}(h:GivesOk Q w e w'):Anys w e w':=by
 obtain ⟨x,h1,_,h2⟩:=h
 exact ⟨_,h1,h2⟩
theorem Parted.any_ {a b:Nat}{w w':World}{e:Ending}(h:Parted a b w e w'):Anys w e w':=by
 obtain ⟨x,y,h1,_,_,h2⟩:=h
 exact ⟨_,h1,h2⟩
theorem ref_GetN_dec (w:World) (n:Nat) (h:(Lib.decDigits n).length≤2000) :
 Calls Tryz.prog 40 #[.string ⟨(Lib.decDigits n).toArray⟩] w (GivesOk (fun x w'=>RefN w' x n) w):=by
 have hg:GoodNat (Lib.decDigits n):=⟨dec_canon n,h⟩
 refine (ref_GetN w (Lib.decDigits n) (by omega)).mono ?_
 rintro e w' ⟨x,b,rfl,hb,⟨_,h1⟩|⟨rfl,_,h2⟩⟩
 ·exact absurd hg h1
 ·rw[numOf_dec]at h2
  exact ⟨x,rfl,h2,hb⟩
theorem tdg_dec {n:Nat}(h:(Lib.decDigits n).length≤2000):(tdg n).length≤2000:=by
 have h1:=numOf_lt (Lib.decDigits n) (dec_isDig n)
 rw[numOf_dec]at h1
 have h2:(10:Nat) ^ (Lib.decDigits n).length≤10000 ^ (Lib.decDigits n).length:=Nat.pow_le_pow_left (by omega) _
 exact Nat.le_trans (tdg_len (Nat.lt_of_lt_of_le h1 h2)) h
theorem nat_Less_any (w:World) (u v:Value) (a b:Nat) (ha:NatAt w u a) (hb:NatAt w v b) (hal:(dgs a).length≤1000000000000) (hbl:(dgs b).length≤1000000000000) :
 Calls Tryz.prog 135 #[u,v] w (Anys w):=by
 rcases Nat.lt_or_ge a b with h|h
 ·exact (nat_Less_no w u v a b ha hb hal hbl h).mono fun _ _ h=>h.any_
 ·exact (nat_Less_yes w u v a b ha hb hal hbl h).mono fun _ _ h=>h.any_
theorem nat_Div_any (w:World) (u v:Value) (a b:Nat) (ha:NatAt w u a) (hb:NatAt w v b) (hal:(dgs a).length≤100000000000) (hbl:(dgs b).length≤100000000000) :
 Calls Tryz.prog 84 #[u,v] w (Anys w):=by
 by_cases h:b=0
 ·subst h;exact (nat_Div_no w u v hb).mono fun _ _ h=>h.any_
 ·exact (nat_Div w u v a b ha hb hal hbl h).mono fun _ _ h=>h.any_
end Go.Proofs.YtehbhghbagaliaaGreatDoor
set_option linter.unusedVariables false
set_option linter.unusedSimpArgs false
namespace Vic
open Go Go.RowKit
def RefQ (w:World) (v:Value) (ng:Bool) (n d:Nat):Prop:=∃ x y,v=.agg #[.bool ng,x,y]∧RefN w x n∧RefN w y d∧(ng=true→n≠0)
theorem RefQ.keep {w w':World}{v:Value}{ng:Bool}{n d:Nat}(h:RefQ w v ng n d) (hb:Below w.heap.size w w'):RefQ w' v ng n d:=by
 obtain ⟨x,y,h1,h2,h3,h4⟩:=h
 exact ⟨x,y,h1,h2.keep hb,h3.keep hb,h4⟩
theorem Ints.rowfar {k:IntKind}{w:World}{v:Value}{l:List Nat}{g:Nat}{t:TypeId}{cs:Array Value}(h:Ints k w v l) (hr:Row w g t cs) (hc:∀ (i:Nat) (x:Int),cs[i]?≠some (.int k x)) {w':World}(hO:Only g w w'):Ints k w' v l:=by
 obtain ⟨A,c,h1,h2,h3⟩:=h
 refine ⟨A,c,h1,h2,fun i hi=>?_⟩
 obtain ⟨b,o,hA,hcl⟩:=h3 i hi
 refine ⟨b,o,hA,?_⟩
 by_cases e:b=g
 ·subst e
  rw[hr.cell]at hcl
  exact absurd hcl (hc _ _)
 ·rw[hO.cell e];exact hcl
theorem NatPtr.rowfar {w:World}{v:Value}{n:Nat}{g:Nat}{t:TypeId}{cs:Array Value}(h:NatPtr w v n) (hr:Row w g t cs) (hc:∀ (i:Nat) (x:Int),cs[i]?≠some (.int .u32 x)) (h0:∀ A l c,cs[0]?≠some (.slice A l c)) {w':World}(hO:Only g w w'):NatPtr w' v n:=by
 obtain ⟨b,s,h1,h2,⟨A,c,rfl,h4,h5⟩,hbk⟩:=h
 have h3:U32s w (.slice A (dgs n).length c) (dgs n):=⟨A,c,rfl,h4,h5⟩
 by_cases e:b=g
 ·subst e
  rw[hr.cell]at h2
  exact absurd h2 (h0 _ _ _)
 ·exact ⟨b,_,h1,by rw[hO.cell e];exact h2,Ints.rowfar h3 hr hc hO,hbk.same (hO.block b e)⟩
theorem FracPtr.rowfar {w:World}{v:Value}{q:Rat}{g:Nat}{t:TypeId}{cs:Array Value}(h:FracPtr w v q) (hr:Row w g t cs) (hc:∀ (i:Nat) (x:Int),cs[i]?≠some (.int .u32 x)) (h0:∀ A l c,cs[0]?≠some (.slice A l c)) (h2:∀ a,cs[2]?≠some (.pointer a)) {w':World}(hO:Only g w w'):FracPtr w' v q:=by
 obtain ⟨b,pn,pd,e1,e2,e3,e4,e5,e6⟩:=h
 obtain ⟨bd,sd,hpd,_,_⟩:=id e6
 have hb:b≠g:=fun e=>by
  subst e
  rw[hr.cell,hpd]at e4
  exact h2 _ e4
 have hk:∀ o,w'.cell? ⟨b,o,none⟩=w.cell? ⟨b,o,none⟩:=fun o=>hO.cell hb
 refine ⟨b,pn,pd,e1,by rw[hk];exact e2,by rw[hk];exact e3,by rw[hk];exact e4,?_,e6.rowfar hr hc h0 hO⟩
 rcases e5 with e5|e5
 ·exact .inl e5
 ·exact (NatPtr.rowfar e5 hr hc h0 hO).at_
theorem sz_25 {n:Nat}(h:n<10 ^ 25):(dgs n).length≤3:=digs_length_le (B:=4294967296) (by omega) (Nat.lt_trans h (by decide +kernel))
def GivesR (ng:Bool) (w:World) (e:Ending) (w':World):Prop:=
 ∃ a b n d,e=.returned (.tuple #[a,b])∧FracPtr w' a (quo ng n d)∧RefQ w' b (ng && decide (n≠0)) n d∧n<10 ^ 25∧d<10 ^ 25∧d≠0∧Below w.heap.size w w'
end Vic
namespace Go.Proofs.YtehbhghbagaliaaGreatDoor
open Go.RowKit Vic
set_option maxRecDepth 100000 in
set_option maxHeartbeats 4000000 in
theorem ref_Frac (w:World) (ng:Bool) (u v:Value) (n d:Nat) (hn:RefN w u n) (hd:RefN w v d) :
 Calls Tryz.prog 41 #[.bool ng,u,v] w (Gives (fun x w'=>RefQ w' x (ng && decide (n≠0)) n d) w):=by
 obtain ⟨A,c,rfl,hA⟩:=hn.open_
 obtain ⟨A2,c2,rfl,hA2⟩:=hd.open_
 have hb:Hid ((0<(tdg n).length)↔n≠0):=Lib.hid ⟨fun h e=>by rw[e,tdg_zero]at h;simp at h,fun h=>tdg_pos h⟩
 clear hn hd
 have hsz:(Tryz.prog.info? 35).map (·.size)=some 3:=by kernel_rfl
 have h01:∀ cs,Below w.heap.size w (w.alloc (.cells cs 35)):=fun cs=>(Below.refl _ _).alloc (Nat.le_refl _) _
 have HA:=Lib.hid hA;have HA2:=Lib.hid hA2;have H01:=Lib.hid h01
 clear hA hA2 h01
 cases ng
 ·go_enter Tryz.func41,Tryz.ntmps41
  go_wp2_with fail
  refine bodyPost_ret (v:=.agg #[.bool false,.slice A (tdg n).length c,.slice A2 (tdg d).length c2]) (results_cell_row (p:=6) (ty:=35) Tryz.results41 _ _ w.heap.size 35 #[.bool false,.slice A (tdg n).length c,.slice A2 (tdg d).length c2] (0,0) _ (by simp[go_sem]) (heap_alloc_new _ _) Tryz.underlying35 rfl hsz) rfl ?_
  exact ⟨_,rfl,⟨_,_,rfl,Ints.keep HA.out (H01.out _),Ints.keep HA2.out (H01.out _),fun h=>by cases h⟩,H01.out _⟩
 ·obtain ⟨bb,hbb⟩:∃ bb,bb=decide (0<(tdg n).length):=⟨_,rfl⟩
  have hbn:Hid (bb=(true && decide (n≠0))):=Lib.hid (by rw[hbb,Bool.true_and];exact decide_eq_decide.2 hb.out)
  have hbq:=hbb.symm
  clear hbb
  go_enter Tryz.func41,Tryz.ntmps41
  go_wp2_with fail
  refine bodyPost_ret (v:=.agg #[.bool bb,.slice A (tdg n).length c,.slice A2 (tdg d).length c2]) (results_cell_row (p:=6) (ty:=35) Tryz.results41 _ _ w.heap.size 35 #[.bool bb,.slice A (tdg n).length c,.slice A2 (tdg d).length c2] (0,0) _ (by simp[go_sem]) (heap_alloc_new _ _) Tryz.underlying35 rfl hsz) rfl ?_
  exact ⟨_,rfl,⟨_,_,by rw[← hbn.out],Ints.keep HA.out (H01.out _),Ints.keep HA2.out (H01.out _),fun h=>by simpa using h⟩,H01.out _⟩
end Go.Proofs.YtehbhghbagaliaaGreatDoor
