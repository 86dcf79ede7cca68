/- Package lit: the literal of begun. And: Package lit: the literal of begun. Package vec: what lies in memory; how many parts, the part at a place. -/
import Derived.Test.YtehbhghbagaliaaGreatDoorJWalkD
import Derived.Shelf.Strconv.AtoiAll
import Derived.Test.YtehbhghbagaliaaGreatDoorJOwnK
import Derived.Test.YtehbhghbagaliaaGreatDoorJMemA
set_option linter.unusedVariables false
set_option linter.unusedSimpArgs false
namespace Go.Proofs.YtehbhghbagaliaaGreatDoor
open Go.RowKit Vic
theorem lit_digits (w:World) (l:List UInt8) (hl:l.length≤1000000) :
 Calls Tryz.prog 70 #[.string ⟨l.toArray⟩] w (Keeps (.bool (decide (∀ c∈l,isDig c=true))) w):=by
 have CT:=Lib.hid (strings_Trim_digs w l (by omega))
 have HT:=trim_digs l
 obtain ⟨t,ht⟩:∃ t,t=Lib.trimS l tenDigs:=⟨_,rfl⟩
 rw[← ht]at CT HT
 by_cases h:∀ c∈l,isDig c=true
 ·obtain rfl:=HT.2 h
  rw[decide_eq_true h]
  clear h HT ht
  go_enter Tryz.func70,Tryz.ntmps70
  go_wp2_with fail
  refine CT.out.mono ?_
  rintro e w1 ⟨rfl,hb1⟩
  go_wp2_with fail
  go_ret
  exact ⟨rfl,hb1⟩
 ·rw[decide_eq_false h]
  have hne:t≠[]:=fun e=>h (HT.1 e)
  obtain ⟨b0,t0,rfl⟩:∃ b0 t0,t=b0 :: t0:=by
   rcases t with _|⟨b0,t0⟩
   ·exact absurd rfl hne
   ·exact ⟨b0,t0,rfl⟩
  clear h HT ht hne
  go_enter Tryz.func70,Tryz.ntmps70
  go_wp2_with fail
  refine CT.out.mono ?_
  rintro e w1 ⟨rfl,hb1⟩
  go_wp2_with fail
  go_ret
  exact ⟨rfl,hb1⟩
theorem tens_good (k:Nat) (hk:k≤1000):GoodNat ([49] ++ List.replicate k 48):=by
 refine ⟨⟨by simp,fun c hc=>?_,?_⟩,by simp;omega⟩
 ·rcases List.mem_append.1 hc with h|h
  ·simp at h;subst h;decide
  ·have:=List.eq_of_mem_replicate h
   subst this;decide
 ·rcases Nat.eq_zero_or_pos k with h|h
  ·subst h;left;rfl
  ·right;simp
theorem tens_num (k:Nat):numOf 0 ([49] ++ List.replicate k 48)=10 ^ k:=by
 induction k with
 | zero=>rfl
 | succ k ih=>
   rw[List.replicate_succ',← List.append_assoc,numOf_append,ih,Nat.pow_succ]
   rfl
set_option maxRecDepth 100000 in
theorem lit_tens (w:World) (k:Nat) (hk:k≤1000) :
 Calls Tryz.prog 73 #[.int .i64 k] w (Gives (fun x w'=>NatPtr w' x (10 ^ k)) w):=by
 have CR:Hid (Calls Tryz.prog 83 #[.string ⟨#[48]⟩,.int .i64 k] w (Keeps (.string ⟨(List.replicate k (48:UInt8)).toArray⟩) w)):=by
  have h:=Go.Proofs.Tryz.strings_Repeat ⟨#[48]⟩ k w (by omega) (by show 1*k≤_;omega)
  rw[show Lib.repeatL (⟨#[48]⟩:ByteArray).data.toList k=List.replicate k 48 from rep_one 48 k]at h
  exact h
 have CG:Hid (∀ wr,Calls Tryz.prog 24 #[.string ⟨([49] ++ List.replicate k (48:UInt8)).toArray⟩] wr (GivesOk (fun x w'=>NatPtr w' x (10 ^ k)) wr)):=fun wr=>by
  have:=nat_Get_yes wr _ (tens_good k hk)
  rwa [tens_num]at this
 generalize 10 ^ k=T at *
 obtain ⟨z,hz⟩:∃ z,z=List.replicate k (48:UInt8):=⟨_,rfl⟩
 have hzl:z.length≤1000:=by rw[hz];simpa using hk
 rw[← hz]at CR CG
 clear hz
 have ea:(⟨#[49]⟩ ++ ⟨z.toArray⟩:ByteArray)=⟨([49] ++ z).toArray⟩:=bytes_app [49] z
 go_enter Tryz.func73,Tryz.ntmps73
 go_wp2_with fail
 refine CR.out.mono ?_
 rintro e w1 ⟨rfl,hb1⟩
 go_wp2_with fail
 refine (CG.out _).mono ?_
 rintro e w2 ⟨x2,rfl,hx2,hb2⟩
 go_wp2_with fail
 go_ret
 exact ⟨x2,rfl,hx2,below_seq hb1 hb2⟩
theorem strings_TrimPrefix (w:World) (s p:List UInt8) :
 Calls Tryz.prog 67 #[.string ⟨s.toArray⟩,.string ⟨p.toArray⟩] w (Rets (.string ⟨(Lib.trimPrefix s p).toArray⟩) w):=by
 refine (Go.Proofs.Tryz.strings_TrimPrefix ⟨s.toArray⟩ ⟨p.toArray⟩ w).mono ?_
 rintro e w' ⟨rfl,rfl⟩
 exact ⟨rfl,rfl⟩
theorem strings_HasPrefix (w:World) (s p:List UInt8) :
 Calls Tryz.prog 66 #[.string ⟨s.toArray⟩,.string ⟨p.toArray⟩] w (Rets (.bool (Lib.hasPrefix s p)) w):=by
 refine (Go.Proofs.Tryz.strings_HasPrefix ⟨s.toArray⟩ ⟨p.toArray⟩ w).mono ?_
 rintro e w' ⟨rfl,rfl⟩
 exact ⟨rfl,rfl⟩
set_option maxRecDepth 100000 in
theorem lit_exponent_one (w:World):Calls Tryz.prog 69 #[.string ⟨#[49]⟩] w (Keeps (.tuple #[.int .i64 1,.bool true]) w):=by
 have C1:Hid (∀ wr,Calls Tryz.prog 67 #[.string ⟨#[49]⟩,.string ⟨#[43]⟩] wr (Rets (.string ⟨#[49]⟩) wr)):=fun wr=>strings_TrimPrefix wr [49] [43]
 have C2:Hid (∀ wr,Calls Tryz.prog 67 #[.string ⟨#[49]⟩,.string ⟨#[45]⟩] wr (Rets (.string ⟨#[49]⟩) wr)):=fun wr=>strings_TrimPrefix wr [49] [45]
 have C3:Hid (∀ wr,Calls Tryz.prog 110 #[.string ⟨#[49]⟩] wr (Keeps (.tuple #[.int .i64 1,.nilIface]) wr)):=fun wr=>by
  refine (Go.Proofs.Tryz.strconv_Atoi_ok ⟨#[49]⟩ (by decide) 1 (by decide) wr).mono ?_
  rintro e w' ⟨rfl,rfl|⟨t,rfl⟩⟩
  ·exact ⟨rfl,Below.refl _ _⟩
  ·exact ⟨rfl,Lib.bytesWorld_below _ _ _⟩
 have C4:Hid (∀ wr,Calls Tryz.prog 70 #[.string ⟨#[49]⟩] wr (Keeps (.bool true) wr)):=fun wr=>by
  have:=lit_digits wr [49] (by simp)
  rwa [decide_eq_true (by decide)]at this
 go_enter Tryz.func69,Tryz.ntmps69
 go_wp2_with fail
 refine (C1.out _).mono ?_
 rintro e w' ⟨rfl,rfl⟩
 go_wp2_with fail
 refine (C2.out _).mono ?_
 rintro e w' ⟨rfl,rfl⟩
 go_wp2_with fail
 refine (C3.out _).mono ?_
 rintro e w1 ⟨rfl,hb1⟩
 go_wp2_with fail
 refine (C4.out _).mono ?_
 rintro e w2 ⟨rfl,hb2⟩
 go_wp2_with fail
 go_ret2
 exact ⟨rfl,below_seq hb1 hb2⟩
end Go.Proofs.YtehbhghbagaliaaGreatDoor
set_option linter.unusedVariables false
set_option linter.unusedSimpArgs false
namespace Go.Proofs.YtehbhghbagaliaaGreatDoor
open Go.RowKit Vic
set_option maxRecDepth 100000 in
set_option maxHeartbeats 2000000 in
theorem lit_Get_begun (w:World) (ht:Tab w):Calls Tryz.prog 26 #[.string ⟨#[45,49,46,50,53,101,49]⟩] w (GivesOk (fun x w'=>FracPtr w' x (quo true 125 10)) w):=by
 have hno:¬ FracGood [45,49,46,50,53,101,49]:=fun h=>absurd h.1 (by decide)
 have C1:Hid (Calls Tryz.prog 25 #[.string ⟨#[45,49,46,50,53,101,49]⟩] w (GivesNo w)):=by
  refine (frac_Get w [45,49,46,50,53,101,49] (by simp) ht).mono ?_
  rintro e w' (⟨_,h⟩|⟨h,_⟩)
  ·exact h
  ·exact absurd h hno
 have C2:Hid (∀ wr,Calls Tryz.prog 66 #[.string ⟨#[45,49,46,50,53,101,49]⟩,.string ⟨#[45]⟩] wr (Rets (.bool true) wr)):=fun wr=>strings_HasPrefix wr [45,49,46,50,53,101,49] [45]
 have C3:Hid (∀ wr,Calls Tryz.prog 67 #[.string ⟨#[45,49,46,50,53,101,49]⟩,.string ⟨#[45]⟩] wr (Rets (.string ⟨#[49,46,50,53,101,49]⟩) wr)):=fun wr=>strings_TrimPrefix wr [45,49,46,50,53,101,49] [45]
 have C4:Hid (∀ wr,Calls Tryz.prog 68 #[.string ⟨#[49,46,50,53,101,49]⟩,.string ⟨#[101,69]⟩] wr (Keeps (.int .i64 4) wr)):=fun wr=>
  Go.Proofs.Tryz.strings_IndexAny_laid ⟨#[49,46,50,53,101,49]⟩ ⟨#[101,69]⟩ wr (by decide) (by decide) (ascii_of_all (by decide)) (ascii_of_all (by decide))
 have C5:Hid (∀ wr,Tab wr→Calls Tryz.prog 63 #[.string ⟨#[49,46,50,53]⟩,.string ⟨#[46]⟩] wr (Keeps (.tuple #[.string ⟨#[49]⟩,.string ⟨#[50,53]⟩,.bool true]) wr)):=fun wr h=>strings_Cut wr h [49,46,50,53] [46] (by decide)
 have C6:Hid (∀ wr,Calls Tryz.prog 70 #[.string ⟨#[49]⟩] wr (Keeps (.bool true) wr)):=fun wr=>by
  have:=lit_digits wr [49] (by simp)
  rwa [decide_eq_true (by decide)]at this
 have C7:Hid (∀ wr,Calls Tryz.prog 70 #[.string ⟨#[50,53]⟩] wr (Keeps (.bool true) wr)):=fun wr=>by
  have:=lit_digits wr [50,53] (by simp)
  rwa [decide_eq_true (by decide)]at this
 have C8:Hid (∀ wr,Calls Tryz.prog 71 #[.string ⟨#[49,50,53]⟩,.string ⟨#[48]⟩] wr (Rets (.string ⟨#[49,50,53]⟩) wr)):=fun wr=>by
  refine (Go.Proofs.Tryz.strings_TrimLeft_one ⟨#[49,50,53]⟩ 48 (by decide) wr).mono ?_
  rintro e w' ⟨rfl,rfl⟩
  exact ⟨rfl,rfl⟩
 have C9:Hid (∀ wr,Calls Tryz.prog 24 #[.string ⟨#[49,50,53]⟩] wr (GivesOk (fun x w'=>NatPtr w' x 125) wr)):=fun wr=>nat_Get_yes wr [49,50,53] (by decide)
 have CX:Hid (∀ wr,Calls Tryz.prog 69 #[.string ⟨#[49]⟩] wr (Keeps (.tuple #[.int .i64 1,.bool true]) wr)):=fun wr=>lit_exponent_one wr
 have CT:Hid (∀ wr,Calls Tryz.prog 73 #[.int .i64 1] wr (Gives (fun x w'=>NatPtr w' x 10) wr)):=fun wr=>lit_tens wr 1 (by omega)
 have HT:=Lib.hid ht
 have ea:(⟨#[49]⟩ ++ ⟨#[50,53]⟩:ByteArray)=⟨#[49,50,53]⟩:=bytes_app [49] [50,53]
 have eb:(⟨#[49,46,50,53,101,49]⟩:ByteArray).extract 5 6=⟨#[49]⟩:=bytes_drop [49,46,50,53,101,49] 5 6 rfl
 have ec:(⟨#[49,46,50,53,101,49]⟩:ByteArray).extract 0 4=⟨#[49,46,50,53]⟩:=bytes_take [49,46,50,53,101,49] 4
 clear hno ht
 go_enter Tryz.func26,Tryz.ntmps26
 go_wp2_with fail
 refine C1.out.mono ?_
 rintro e w1 ⟨rfl,hb1⟩
 go_wp2_with fail
 refine (C2.out _).mono ?_
 rintro e w' ⟨rfl,rfl⟩
 go_wp2_with fail
 refine (C3.out _).mono ?_
 rintro e w' ⟨rfl,rfl⟩
 go_wp2_with fail
 refine (C4.out _).mono ?_
 rintro e w2 ⟨rfl,hb2⟩
 go_wp2_with fail
 refine (CX.out _).mono ?_
 rintro e w3 ⟨rfl,hb3⟩
 have hb13:=below_seq hb1 (below_seq hb2 hb3)
 go_wp2_with fail
 refine (C5.out _ (HT.out.keep hb13)).mono ?_
 rintro e w4 ⟨rfl,hb4⟩
 go_wp2_with fail
 refine (C6.out _).mono ?_
 rintro e w5 ⟨rfl,hb5⟩
 go_wp2_with fail
 refine (C7.out _).mono ?_
 rintro e w6 ⟨rfl,hb6⟩
 go_wp2_with fail
 refine (C8.out _).mono ?_
 rintro e w' ⟨rfl,rfl⟩
 go_wp2_with fail
 refine (C9.out _).mono ?_
 rintro e w7 ⟨x7,rfl,hx7,hb7⟩
 go_wp2_with fail
 refine (CT.out _).mono ?_
 rintro e w8 ⟨x8,rfl,hx8,hb8⟩
 have CN:=Lib.hid (frac_New w8 true x7 x8 125 10 (hx7.keep hb8).at_ hx8.at_ (by omega) (Nat.le_trans (sz_word (by omega)) (by omega)) (Nat.le_trans (sz_word (by omega)) (by omega)))
 go_wp2_with fail
 refine CN.out.mono ?_
 rintro e w9 ⟨x9,rfl,hx9,hb9⟩
 go_wp2_with fail
 go_ret2
 exact ⟨x9,rfl,hx9,below_seq hb13 (below_seq hb4 (below_seq hb5 (below_seq hb6 (below_seq hb7 (below_seq hb8 hb9)))))⟩
end Go.Proofs.YtehbhghbagaliaaGreatDoor
set_option linter.unusedVariables false
set_option linter.unusedSimpArgs false
namespace Vic
open Go Go.RowKit
def Alien (w:World) (b:Nat):Prop:=
 (∀ o u,w.cell? ⟨b,o,none⟩=some u→(∀ x,u≠.bool x)∧(∀ x,u≠.int .u32 x)) ∧
 (∀ A l c b' o' x,w.cell? ⟨b,0,none⟩=some (.slice A l c)→0<l→A=some ⟨b',o',none⟩→w.cell? ⟨b',o',none⟩≠some (.int .u32 x))
theorem cell_same {w w':World}{b:Nat}(h:w'.heap[b]?=w.heap[b]?) (o:Nat):w'.cell? ⟨b,o,none⟩=w.cell? ⟨b,o,none⟩:=by simp[World.cell?,h]
theorem NatPtr.stay {w w':World}{v:Value}{n:Nat}(h:NatPtr w v n) (h0:n≠0) (hs:∀ b,b<w.heap.size→Alien w b∨w'.heap[b]?=w.heap[b]?):NatPtr w' v n:=by
 obtain ⟨b,s,h1,h2,⟨A,c,rfl,h3,h4⟩,hbk⟩:=h
 have hl:0<(digs 4294967296 n).length:=by
  rcases Nat.eq_zero_or_pos (digs 4294967296 n).length with h5|h5
  ·exact absurd ((digs_eq_nil (by omega)).1 (List.eq_nil_of_length_eq_zero h5)) h0
  ·exact h5
 obtain ⟨b0,o0,hA,hc0⟩:=h4 0 hl
 have e1:w'.heap[b]?=w.heap[b]?:=by
  rcases hs b (block_lt h2)with h5|h5
  ·exact absurd hc0 (h5.2 A _ c b0 o0 _ h2 hl hA)
  ·exact h5
 have e2:w'.heap[b0]?=w.heap[b0]?:=by
  rcases hs b0 (block_lt hc0)with h5|h5
  ·exact absurd rfl ((h5.1 _ _ hc0).2 _)
  ·exact h5
 refine ⟨b,_,h1,by rw[cell_same e1];exact h2,⟨A,c,rfl,h3,fun i hi=>?_⟩,hbk.same e1⟩
 obtain ⟨b',o',hA',hc⟩:=h4 i hi
 rw[hA]at hA'
 injection hA' with hA'
 injection hA' with hb ho
 subst hb;subst ho
 exact ⟨b0,o0,hA,by rw[cell_same e2];exact hc⟩
theorem FracPtr.stay {w w':World}{v:Value}{q:Rat}(h:FracPtr w v q) (h0:q≠0) (hs:∀ b,b<w.heap.size→Alien w b∨w'.heap[b]?=w.heap[b]?):FracPtr w' v q:=by
 obtain ⟨b,pn,pd,h1,h2,h3,h4,h5,h6⟩:=h
 have e1:w'.heap[b]?=w.heap[b]?:=by
  rcases hs b (block_lt h2)with h7|h7
  ·exact absurd rfl ((h7.1 _ _ h2).1 _)
  ·exact h7
 have hn:q.num.natAbs≠0:=fun h=>h0 (Rat.num_eq_zero.1 (by omega))
 exact ⟨b,pn,pd,h1,by rw[cell_same e1];exact h2,by rw[cell_same e1];exact h3,by rw[cell_same e1];exact h4,((h5.ptr hn).stay hn hs).at_,h6.stay q.den_nz hs⟩
abbrev VPart:=Int × Option Addr × Rat
def encPart (x:VPart):List Value:=[.int .i64 x.1,.pointer x.2.1]
def partKind (u:Value):Prop:=(∃ n,u=.int .i64 n)∨(∃ a,u=.pointer a)
def PartsIn (w:World) (sv:Value) (fs:List VPart):Prop:=
 ∃ A c,sv=.slice A fs.length c∧fs.length≤c∧∀ i x,fs[i]?=some x→∃ g o,A=some ⟨g,o,none⟩∧w.cell? ⟨g,o+i*2,none⟩=some (.int .i64 x.1)∧w.cell? ⟨g,o+i*2+1,none⟩=some (.pointer x.2.1)∧FracPtr w (.pointer x.2.1) x.2.2
theorem PartsIn.keep {w w':World}{sv:Value}{fs:List VPart}(h:PartsIn w sv fs) (hb:Below w.heap.size w w'):PartsIn w' sv fs:=by
 obtain ⟨A,c,h1,h2,h3⟩:=h
 refine ⟨A,c,h1,h2,fun i x hx=>?_⟩
 obtain ⟨g,o,h4,h5,h6,h7⟩:=h3 i x hx
 exact ⟨g,o,h4,cell_keep h5 hb,cell_keep h6 hb,h7.keep hb⟩
def unpart (fs:List VPart):List (Int × Rat):=fs.map fun x=>(x.1,x.2.2)
def VecPtr (w:World) (v:Value) (ps:List (Int × Rat)):Prop:=
 ∃ b sv fs,v=.pointer (some ⟨b,0,none⟩)∧w.cell? ⟨b,0,none⟩=some sv∧PartsIn w sv fs∧ps=unpart fs
def VecAt (w:World) (v:Value) (ps:List (Int × Rat)):Prop:=(v=.pointer none∧ps = [])∨VecPtr w v ps
theorem VecPtr.keep {w w':World}{v:Value}{ps:List (Int × Rat)}(h:VecPtr w v ps) (hb:Below w.heap.size w w'):VecPtr w' v ps:=by
 obtain ⟨b,sv,fs,h1,h2,h3,h4⟩:=h
 exact ⟨b,sv,fs,h1,cell_keep h2 hb,h3.keep hb,h4⟩
theorem VecAt.keep {w w':World}{v:Value}{ps:List (Int × Rat)}(h:VecAt w v ps) (hb:Below w.heap.size w w'):VecAt w' v ps:=by
 rcases h with h|h
 ·exact .inl h
 ·exact .inr (h.keep hb)
def PartsGot (ps:List (Int × Rat)) (w:World) (e:Ending) (w':World):Prop:=∃ sv fs,e=.returned sv∧PartsIn w sv fs∧ps=unpart fs∧w=w'
def atOf (ps:List (Int × Rat)) (i:Int):Rat:=((ps.find? fun p=>p.1 == i).map (·.2)).getD 0
theorem atOf_miss {fs:List VPart}{i:Int}(h:∀ (j:Nat) (x:VPart),fs[j]?=some x→x.1≠i):atOf (unpart fs) i=0:=by
 unfold atOf
 rw[List.find?_eq_none.2]
 ·rfl
 ·intro p hp
  obtain ⟨x,hx,rfl⟩:=List.mem_map.1 hp
  obtain ⟨j,hj⟩:=List.getElem?_of_mem hx
  simpa using h j x hj
theorem atOf_hit {i:Int}:∀ {fs:List VPart}{k:Nat}{x:VPart},fs[k]?=some x→x.1=i→(∀ (j:Nat) (y:VPart),j<k→fs[j]?=some y→y.1≠i)→atOf (unpart fs) i=x.2.2
 | [],k,x,h,_,_=>by simp at h
 | y :: fs,0,x,h,hi,_=>by
   simp only[List.getElem?_cons_zero,Option.some.injEq]at h
   subst h
   simp[atOf,unpart,hi]
 | y :: fs,k+1,x,h,hi,hn=>by
   have hy:y.1≠i:=hn 0 y (by omega) (by simp)
   have ih:=atOf_hit (fs:=fs) (k:=k) (x:=x) (by simpa using h) hi (fun j z hj hz=>hn (j+1) z (by omega) (by simpa using hz))
   rw[← ih]
   simp[atOf,unpart,hy]
end Vic
namespace Go.Proofs.YtehbhghbagaliaaGreatDoor
open Go.RowKit Vic
theorem vec_parts (w:World) (v:Value) (ps:List (Int × Rat)) (h:VecAt w v ps):Calls Tryz.prog 45 #[v] w (PartsGot ps w):=by
 rcases h with ⟨rfl,rfl⟩|⟨b,sv,fs,rfl,hc,hp,rfl⟩
 ·go_enter Tryz.func45,Tryz.ntmps45
  go_wp2
  go_ret
  exact ⟨_,[],rfl,⟨none,0,rfl,Nat.le_refl _,fun i x hx=>by simp at hx⟩,rfl,rfl⟩
 ·have hp':=hp
  obtain ⟨A,c,rfl,hlc,_⟩:=hp'
  have HP:=Lib.hid hp
  clear hp
  go_enter Tryz.func45,Tryz.ntmps45
  go_wp2
  go_ret
  exact ⟨_,fs,rfl,HP.out,rfl,rfl⟩
theorem vec_Len (w:World) (v:Value) (ps:List (Int × Rat)) (h:VecAt w v ps):Calls Tryz.prog 21 #[v] w (Rets (.int .i64 (ps.length:Nat)) w):=by
 have CP:=Lib.hid (vec_parts w v ps h)
 unfold PartsGot at CP
 obtain ⟨n,hn⟩:∃ n,n=ps.length:=⟨_,rfl⟩
 rw[← hn]
 have HN:=Lib.hid hn
 clear hn h
 go_enter Tryz.func21,Tryz.ntmps21
 go_wp2_with fail
 refine CP.out.mono ?_
 rintro e w' ⟨sv,fs,rfl,⟨A,c,rfl,hlc,_⟩,hps,rfl⟩
 have HF:n=fs.length:=by rw[HN.out,hps];simp[unpart]
 have HFF:=Lib.hid HF
 clear HF hps
 go_wp2_with fail
 go_ret
 exact ⟨by rw[HFF.out];rfl,rfl⟩
set_option maxRecDepth 100000 in
set_option maxHeartbeats 2000000 in
theorem vec_At (w:World) (v:Value) (ps:List (Int × Rat)) (h:VecAt w v ps) (hl:ps.length≤1000000) (i:Int):Calls Tryz.prog 16 #[v,.int .i64 i] w (Gives (fun x w'=>FracPtr w' x (atOf ps i)) w):=by
 have CP:=Lib.hid (vec_parts w v ps h)
 unfold PartsGot at CP
 have HL:=Lib.hid hl
 clear h hl
 go_enter Tryz.func16,Tryz.ntmps16
 go_wp2_with fail
 refine CP.out.mono ?_
 rintro e w' ⟨sv,fs,rfl,hp,hps,rfl⟩
 obtain ⟨A,c,rfl,hlc,hcell⟩:=hp
 have hfl:fs.length≤1000000:=by have:=HL.out;rw[hps]at this;simpa [unpart]using this
 have HPS:=Lib.hid hps
 have HC:=Lib.hid hcell
 clear hps hcell HL
 go_wp2_with fail
 go_loopw [10] (fun t wr=>∃ k:Nat,t=.int .i64 k∧k≤fs.length∧Hid (∀ j x,j<k→fs[j]?=some x→x.1≠i)∧Below w.heap.size w wr) (fun t _=>fs.length - (intOf t).toNat)
 case atStart=>exact ⟨0,rfl,Nat.zero_le _,fun j x hj=>by omega,Below.refl _ _⟩
 case round=>
  obtain ⟨k,rfl,hk,hz,hbr⟩:=hrel
  by_cases hlt:k<fs.length
  ·obtain ⟨x,hx⟩:∃ x,fs[k]?=some x:=⟨fs[k],by simp[hlt]⟩
   obtain ⟨g,o,rfl,hc1,hc2,hf⟩:=HC.out k x hx
   have hc1':=cell_keep hc1 hbr
   have hc2':=cell_keep hc2 hbr
   obtain ⟨at_,ad,q⟩:=x
   simp only at hc1' hc2' hf
   have HX:=Lib.hid hx
   have HF:=Lib.hid hf
   clear hc1 hc2 hx hf
   by_cases he:at_=i
   ·subst he
    go_wp2_with fail
    go_ret
    have hb2:Below w.heap.size w (wr.alloc (Obj.cells #[.int .i64 at_,.pointer ad] 75)):=hbr.alloc hbr.size _
    refine ⟨_,rfl,?_,hb2⟩
    have:=atOf_hit HX.out rfl hz.out
    rw[← HPS.out]at this
    exact this▸HF.out.keep hb2
   ·have hbe:(at_ == i)=false:=beq_eq_false_iff_ne.2 he
    have hz2:Hid (∀ (j:Nat) (x:VPart),j<k+1→fs[j]?=some x→x.1≠i):=fun j x hj hx=>by
     rcases Nat.lt_or_eq_of_le (Nat.le_of_lt_succ hj)with h1|h1
     ·exact hz.out j x h1 hx
     ·subst h1
      rw[HX.out]at hx
      cases hx
      exact he
    clear he
    go_wp2_with fail
    go_roundw
    case rel=>exact ⟨k+1,rfl,by omega,hz2,hbr.alloc hbr.size _⟩
    case measure=>simp[intOf];omega
  ·obtain rfl:k=fs.length:=by omega
   have hm:Hid (atOf ps i=0):=by
    show _=_
    rw[HPS.out]
    exact atOf_miss fun j x hx=>hz.out j x (by
     have:=(List.getElem?_eq_some_iff.1 hx).1
     exact this) hx
   have CO:=Lib.hid (frac_Of wr 0 (by omega) (by omega))
   clear hlc hlt
   go_wp2_with fail
   refine CO.out.mono ?_
   rintro e w3 ⟨x3,rfl,hx3,hb3⟩
   go_wp2_with fail
   go_ret
   refine ⟨x3,rfl,?_,hbr.trans (hb3.mono hbr.size)⟩
   exact hm.out.symm▸hx3
end Go.Proofs.YtehbhghbagaliaaGreatDoor
