/- A machine for closed runs: what the places of a frame hold, packed. No program in sight. -/
import Derived.Test.YtbdfhnelmojbpaaGreatDoorWad
set_option linter.unusedVariables false
set_option linter.unusedSimpArgs false
section
namespace Am
open Go
noncomputable section
structure Env where
 n:Nat
 t:T AV
def cnd {α:Type}(b:Bool) (x y:α):α:=Bool.rec y x b
theorem cnd_eq {α:Type}(b:Bool) (x y:α):cnd b x y=if b then x else y:=by cases b<;>rfl
def slot (n t:Nat):Nat:=Nat.mod (Nat.shiftRight n (Nat.mul 192 t)) 6277101735386680763835789423207666416102355444464034512896
def pset (n t x:Nat):Nat:=Nat.xor n (Nat.shiftLeft (Nat.xor (Nat.mod (Nat.shiftRight n (Nat.mul 192 t)) 6277101735386680763835789423207666416102355444464034512896) x) (Nat.mul 192 t))
theorem slot_bit (n t i:Nat):(slot n t).testBit i=(decide (i<192) && n.testBit (192*t+i)):=by
 show ((n >>> (192*t)) % 2 ^ 192).testBit i=_
 rw[Nat.testBit_mod_two_pow,Nat.testBit_shiftRight]
theorem slot_lt (n t:Nat):slot n t<2 ^ 192:=Nat.mod_lt _ (by decide)
theorem slot_pset {n t x:Nat}(hx:x<2 ^ 192) (k:Nat):slot (pset n t x) k=if k=t then x else slot n k:=by
 apply Nat.eq_of_testBit_eq
 intro i
 have e:pset n t x=n ^^^ ((slot n t ^^^ x) <<< (192*t)):=rfl
 rw[slot_bit,e,Nat.testBit_xor,Nat.testBit_shiftLeft,Nat.testBit_xor,slot_bit]
 by_cases hi:i<192
 ·by_cases hk:k=t
  ·subst hk
   have:192*k+i - 192*k=i:=by omega
   simp[hi,this]
  ·rw[if_neg hk,slot_bit]
   have hi':decide (i<192)=true:=by simpa using hi
   rw[hi',Bool.true_and,Bool.true_and]
   by_cases hlt:k<t
   ·have:¬ (192*k+i≥192*t):=by omega
    simp[this]
   ·have h3:¬ (192*k+i - 192*t<192):=by omega
    have h4:x.testBit (192*k+i - 192*t)=false:=Nat.testBit_lt_two_pow (Nat.lt_of_lt_of_le hx (Nat.pow_le_pow_right (by decide) (by omega)))
    simp[h3,h4]
 ·have hi':decide (i<192)=false:=by simpa using hi
  rw[hi',Bool.false_and]
  split
  ·exact (Nat.testBit_lt_two_pow (Nat.lt_of_lt_of_le hx (Nat.pow_le_pow_right (by decide) (by omega)))).symm
  ·rw[slot_bit,hi',Bool.false_and]
def kof (g:Nat):IntKind:=cnd (Nat.beq g 7) .i64 (cnd (Nat.beq g 11) .u64 (cnd (Nat.beq g 8) .u8 (cnd (Nat.beq g 6) .i32 (cnd (Nat.beq g 10) .u32 (cnd (Nat.beq g 4) .i8 (cnd (Nat.beq g 5) .i16 .u16))))))
def nof (g:Nat):IntKind:=cnd (Nat.beq g 12) .i64 (cnd (Nat.beq g 13) .i32 (cnd (Nat.beq g 14) .i16 .i8))
def m32 (x:Nat):Nat:=Nat.mod x 4294967296
def d32 (x:Nat):Nat:=Nat.div x 4294967296
def dsl (p:Nat) (f:Nat→Option Nat):AV:=
 .sl (m32 p) (m32 (d32 p)) (m32 (d32 (d32 p))) (f (d32 (Nat.div (d32 (d32 (d32 p))) 65536))) (Nat.mod (d32 (d32 (d32 p))) 65536) (m32 (Nat.div (d32 (d32 (d32 p))) 65536))
def dlo (g p:Nat) (bx:Option AV):Option AV:=cnd (Nat.ble g 1) (cnd (Nat.beq g 1) (cnd (Nat.beq p 0) bx none) none) (cnd (Nat.beq g 2) (some (.b (Nat.beq p 1))) (some (.p (m32 p) (d32 p))))
def dmi (g p:Nat):Option AV:=cnd (Nat.ble g 11) (some (.i (kof g) (.ofNat p))) (some (.i (nof g) (.negSucc p)))
def dhi (g p:Nat):Option AV:=cnd (Nat.ble g 19) (cnd (Nat.ble g 17) (cnd (Nat.beq g 16) (some .np) (some .nsl)) (cnd (Nat.beq g 18) (some (dsl p (fun _=>none))) (some (dsl p some)))) (cnd (Nat.ble g 21) (cnd (Nat.beq g 20) (some .nmp) (some (.mp p))) (cnd (Nat.beq g 22) (some .nfn) (cnd (Nat.beq g 23) (some .nifc) none)))
def decG (g p:Nat) (bx:Option AV):Option AV:=cnd (Nat.ble g 15) (cnd (Nat.ble g 3) (dlo g p bx) (dmi g p)) (dhi g p)
def dec (s:Nat) (bx:Option AV):Option AV:=decG (Nat.mod s 32) (Nat.div s 32) bx
def eget (e:Env) (t:Nat):Option AV:=dec (slot e.n t) (e.t.get t)
def tagd (g p:Nat):Nat:=Nat.add (Nat.mul 32 p) g
def encI:Int→IntKind→Nat:=
 Int.rec (motive:=fun _=>IntKind→Nat) (fun a k=>tagd (Nat.add 4 (kidx k)) a) (fun a k=>IntKind.rec (motive:=fun _=>Nat→Nat) (fun a=>tagd 15 a) (fun a=>tagd 14 a) (fun a=>tagd 13 a) (fun a=>tagd 12 a) (fun _=>1) (fun _=>1) (fun _=>1) (fun _=>1) k a)
def p32 (a b:Nat):Nat:=Nat.add a (Nat.mul 4294967296 b)
def psl (id off len es pre cap:Nat):Nat:=p32 id (p32 off (p32 len (Nat.add es (Nat.mul 65536 (p32 pre cap)))))
def okp (id off len es pre:Nat):Bool:=Nat.beq (Nat.add (Nat.add (d32 id) (d32 off)) (Nat.add (Nat.add (d32 len) (d32 pre)) (Nat.div es 65536))) 0
def enc:AV→Nat:=
 AV.rec (motive_1:=fun _=>Nat) (motive_2:=fun _=>Nat) (fun x=>cnd x 34 2) (fun k n=>encI n k) (fun _ _=>1) (fun id off=>cnd (Nat.beq (d32 id) 0) (tagd 3 (p32 id off)) 1) 16
  (fun id off len cap es pre=>cnd (okp id off len es pre) (Option.rec (tagd 18 (psl id off len es pre 0)) (fun c=>tagd 19 (psl id off len es pre c)) cap) 1) 17 (fun id=>tagd 21 id) 20 (fun _ _ _ _ _=>1) 22 (fun _ _ _=>1) 23 (fun _ _=>1) (fun _ _=>1) (fun _=>1) 1 (fun _ _ _ _=>1)
def big:Nat:=6277101735386680763835789423207666416102355444464034512896
def ccap (c:Nat):Nat:=Bool.rec 1 c (Nat.ble c 6277101735386680763835789423207666416102355444464034512895)
def tcap (c:Nat) (x:Option AV) (U:T AV) (t:Nat):T AV:=Bool.rec U (U.put x t) (Nat.beq c 1)
def eput (e:Env) (t:Nat) (v:AV):Env:=⟨pset e.n t (ccap (enc v)),tcap (ccap (enc v)) (some v) e.t t⟩
def enew:Env:=⟨0,full AV 5⟩
theorem mod_tagd {g:Nat}(hg:g<32) (p:Nat):Nat.mod (tagd g p) 32=g:=by show (32*p+g) % 32=g;omega
theorem div_tagd {g:Nat}(hg:g<32) (p:Nat):Nat.div (tagd g p) 32=p:=by show (32*p+g) / 32=p;omega
theorem dec_tagd {g:Nat}(hg:g<32) (p:Nat) (bx:Option AV):dec (tagd g p) bx=decG g p bx:=by unfold dec;rw[mod_tagd hg,div_tagd hg]
theorem d32_zero {a:Nat}(h:d32 a=0):a<4294967296:=by
 have h:a / 4294967296=0:=h
 omega
theorem m32_p32 {a:Nat}(h:d32 a=0) (b:Nat):m32 (p32 a b)=a:=by
 have:=d32_zero h
 show (a+4294967296*b) % 4294967296=a;omega
theorem d32_p32 {a:Nat}(h:d32 a=0) (b:Nat):d32 (p32 a b)=b:=by
 have:=d32_zero h
 show (a+4294967296*b) / 4294967296=b;omega
theorem dsl_psl {id off len es pre cap:Nat}(h:okp id off len es pre=true) (f:Nat→Option Nat):dsl (psl id off len es pre cap) f=.sl id off len (f cap) es pre:=by
 unfold okp at h
 rw[Nat.beq_eq]at h
 have h:(d32 id+d32 off)+((d32 len+d32 pre)+es / 65536)=0:=h
 have h1:d32 id=0:=by omega
 have h2:d32 off=0:=by omega
 have h3:d32 len=0:=by omega
 have h4:d32 pre=0:=by omega
 have h5:es / 65536=0:=by omega
 have e1:∀ b,Nat.mod (Nat.add es (Nat.mul 65536 b)) 65536=es:=fun b=>by show (es+65536*b) % 65536=es;omega
 have e2:∀ b,Nat.div (Nat.add es (Nat.mul 65536 b)) 65536=b:=fun b=>by show (es+65536*b) / 65536=b;omega
 unfold dsl psl
 rw[m32_p32 h1,d32_p32 h1,m32_p32 h2,d32_p32 h2,m32_p32 h3,d32_p32 h3,e1,e2,m32_p32 h4,d32_p32 h4]
theorem dec_encI (k:IntKind) (n:Int) (bx:Option AV):encI n k=1∨dec (encI n k) bx=some (.i k n):=by
 cases n with
 | ofNat a=>
   refine .inr ?_
   have e:encI (.ofNat a) k=tagd (Nat.add 4 (kidx k)) a:=rfl
   rw[e,dec_tagd (by cases k<;>decide)]
   cases k<;>rfl
 | negSucc a=>
   cases k with
   | i8=>exact .inr (by show dec (tagd 15 a) bx=_;rw[dec_tagd (by decide)];rfl)
   | i16=>exact .inr (by show dec (tagd 14 a) bx=_;rw[dec_tagd (by decide)];rfl)
   | i32=>exact .inr (by show dec (tagd 13 a) bx=_;rw[dec_tagd (by decide)];rfl)
   | i64=>exact .inr (by show dec (tagd 12 a) bx=_;rw[dec_tagd (by decide)];rfl)
   | _=>exact .inl rfl
theorem dec_enc (v:AV) (bx:Option AV):enc v=1∨dec (enc v) bx=some v:=by
 cases v with
 | b x=>exact .inr (by cases x<;>rfl)
 | i k n=>exact dec_encI k n bx
 | p id off=>
   have e:enc (.p id off)=cnd (Nat.beq (d32 id) 0) (tagd 3 (p32 id off)) 1:=rfl
   rw[e,cnd_eq]
   split
   ·rename_i h
    rw[Nat.beq_eq]at h
    refine .inr ?_
    rw[dec_tagd (by decide)]
    show some (AV.p (m32 (p32 id off)) (d32 (p32 id off)))=_
    rw[m32_p32 h,d32_p32 h]
   ·exact .inl rfl
 | sl id off len cap es pre=>
   have e:enc (.sl id off len cap es pre)=cnd (okp id off len es pre) (Option.rec (tagd 18 (psl id off len es pre 0)) (fun c=>tagd 19 (psl id off len es pre c)) cap) 1:=rfl
   rw[e,cnd_eq]
   split
   ·rename_i h
    refine .inr ?_
    cases cap with
    | none=>
      show dec (tagd 18 (psl id off len es pre 0)) bx=_
      rw[dec_tagd (by decide)]
      show some (dsl _ _)=_
      rw[dsl_psl h]
    | some c=>
      show dec (tagd 19 (psl id off len es pre c)) bx=_
      rw[dec_tagd (by decide)]
      show some (dsl _ _)=_
      rw[dsl_psl h]
   ·exact .inl rfl
 | mp id=>exact .inr (by show dec (tagd 21 id) bx=_;rw[dec_tagd (by decide)];rfl)
 | np=>exact .inr rfl
 | nsl=>exact .inr rfl
 | nmp=>exact .inr rfl
 | nfn=>exact .inr rfl
 | nifc=>exact .inr rfl
 | s _ _=>exact .inl rfl
 | fn _ _ _=>exact .inl rfl
 | ifc _ _=>exact .inl rfl
 | ag _=>exact .inl rfl
 | tp _=>exact .inl rfl
 | v _=>exact .inl rfl
theorem dec_box {s:Nat}(bx bx':Option AV) (h:s≠1):dec s bx=dec s bx':=by
 unfold dec decG dlo
 by_cases h1:Nat.mod s 32=1
 ·have h2:Nat.div s 32≠0:=by
   intro h2
   have h1:s % 32=1:=h1
   have h2:s / 32=0:=h2
   omega
  rw[bqn h2];rfl
 ·rw[bqn h1];rfl
theorem dec_one (bx:Option AV):dec 1 bx=bx:=rfl
theorem ccap_lt (c:Nat):ccap c<2 ^ 192:=by
 unfold ccap
 cases h:Nat.ble c 6277101735386680763835789423207666416102355444464034512895 with
 | true=>rw[Nat.ble_eq]at h;exact Nat.lt_of_le_of_lt h (by decide)
 | false=>show (1:Nat)<2 ^ 192;decide
theorem ccap_or (c:Nat):ccap c=1∨ccap c=c:=by
 unfold ccap
 cases h:Nat.ble c 6277101735386680763835789423207666416102355444464034512895 with
 | true=>exact .inr rfl
 | false=>exact .inl rfl
theorem tcap_one (x:Option AV) (U:T AV) (t:Nat):tcap 1 x U t=U.put x t:=rfl
theorem tcap_ne {c:Nat}(h:c≠1) (x:Option AV) (U:T AV) (t:Nat):tcap c x U t=U:=by unfold tcap;rw[bqn h]
theorem eget_place {n t:Nat}{U:T AV}{x:Option AV}{c k:Nat}{a:AV}(hc:c<2 ^ 192) (h:eget ⟨pset n t c,tcap c x U t⟩ k=some a):(k=t∧dec c x=some a)∨(k≠t∧eget ⟨n,U⟩ k=some a):=by
 unfold eget at h
 simp only at h
 rw[slot_pset hc]at h
 by_cases hk:k=t
 ·subst hk
  rw[if_pos rfl]at h
  refine .inl ⟨rfl,?_⟩
  by_cases h1:c=1
  ·subst h1
   rw[dec_one,tcap_one]at h
   rcases T.put_self x U k with h2|h2
   ·rw[dec_one,← h2];exact h
   ·rw[h2]at h;cases h
  ·rw[tcap_ne h1]at h
   rw[dec_box x (U.get k) h1];exact h
 ·rw[if_neg hk]at h
  refine .inr ⟨hk,?_⟩
  unfold eget
  by_cases h1:c=1
  ·subst h1
   rw[tcap_one,T.get_put_ne _ _ _ _ hk]at h;exact h
  ·rw[tcap_ne h1]at h;exact h
theorem eget_pset {n t:Nat}{U:T AV}{x:AV}{c k:Nat}{a:AV}(hc:c<2 ^ 192) (hx:∀ bx,dec c bx=some x) (h:eget ⟨pset n t c,U⟩ k=some a):(k=t∧a=x)∨(k≠t∧eget ⟨n,U⟩ k=some a):=by
 unfold eget at h
 simp only at h
 rw[slot_pset hc]at h
 by_cases hk:k=t
 ·rw[if_pos hk,hx]at h
  exact .inl ⟨hk,(Option.some.inj h).symm⟩
 ·rw[if_neg hk]at h
  exact .inr ⟨hk,h⟩
theorem dec_ccap (v:AV) (bx:Option AV):ccap (enc v)=1∨dec (ccap (enc v)) bx=some v:=by
 rcases ccap_or (enc v)with h|h
 ·exact .inl h
 ·rw[h];exact dec_enc v bx
theorem eget_eput {e:Env}{n k:Nat}{x a:AV}(h:eget (eput e n x) k=some a):(k=n∧a=x)∨(k≠n∧eget e k=some a):=by
 rcases eget_place (ccap_lt _) h with ⟨h1,h2⟩|h1
 ·rcases dec_ccap x (some x)with h4|h4
  ·rw[h4,dec_one]at h2;exact .inl ⟨h1,(Option.some.inj h2).symm⟩
  ·rw[h4]at h2;exact .inl ⟨h1,(Option.some.inj h2).symm⟩
 ·exact .inr h1
theorem slot_zero (t:Nat):slot 0 t=0:=by
 show (0 >>> (192*t)) % 2 ^ 192=0
 simp
theorem eget_new (k:Nat):eget enew k=none:=by
 unfold eget enew
 simp only
 rw[slot_zero];rfl
end
end Am
end
section
namespace Am
open Go
noncomputable section
def iop (f:Nat→Nat→IntKind→Int→Int→Int) (g:IntKind→Int→Int→Int) (k:IntKind) (x y:Int):Int:=
 Int.rec (motive:=fun _=>(Nat→Nat→IntKind→Int→Int→Int)→(IntKind→Int→Int→Int)→IntKind→Int→Int→Int)
  (fun a f g k x y=>Int.rec (motive:=fun _=>Nat→(Nat→Nat→IntKind→Int→Int→Int)→(IntKind→Int→Int→Int)→IntKind→Int→Int→Int) (fun b a f _ k x y=>f a b k x y) (fun _ _ _ g k x y=>g k x y) y a f g k x y) (fun _ _ g k x y=>g k x y) x f g k x y
def addG (k:IntKind) (x y:Int):Int:=iwrap k (x+y)
def subG (k:IntKind) (x y:Int):Int:=iwrap k (x - y)
def mulG (k:IntKind) (x y:Int):Int:=iwrap k (x*y)
def quoG (k:IntKind) (x y:Int):Int:=iwrap k (x.tdiv y)
def remG (k:IntKind) (x y:Int):Int:=x.tmod y
def uwrap:IntKind→Nat→Int:=
 IntKind.rec (motive:=fun _=>Nat→Int) (fun n=>IntKind.i8.wrap (.ofNat n)) (fun n=>IntKind.i16.wrap (.ofNat n)) (fun n=>IntKind.i32.wrap (.ofNat n)) (fun n=>IntKind.i64.wrap (.ofNat n))
  (fun n=>.ofNat (Nat.mod n 256)) (fun n=>.ofNat (Nat.mod n 65536)) (fun n=>.ofNat (Nat.mod n 4294967296)) (fun n=>.ofNat (Nat.mod n 18446744073709551616))
theorem uwrap_eq (k:IntKind) (n:Nat):uwrap k n=k.wrap (.ofNat n):=by
 cases k<;>rfl
def small (k:IntKind) (n:Nat):Int:=cnd (Nat.blt n (klim k)) (.ofNat n) (uwrap k n)
theorem small_eq (k:IntKind) (n:Nat):small k n=iwrap k (.ofNat n):=by
 rw[small,cnd_eq]
 cases hb:Nat.blt n (klim k)with
 | false=>rw[iwrap_eq,← uwrap_eq];rfl
 | true=>simp[iwrap,hb]
def qwrap (k:IntKind) (n:Int):Int:=Int.rec (motive:=fun _=>IntKind→Int) (fun a k=>small k a) (fun a k=>k.wrap (.negSucc a)) n k
theorem qwrap_eq (k:IntKind) (n:Int):qwrap k n=iwrap k n:=by
 cases n with
 | ofNat a=>exact small_eq k a
 | negSucc a=>rfl
def addN (a b:Nat) (k:IntKind) (x y:Int):Int:=small k (Nat.add a b)
def subN (a b:Nat) (k:IntKind) (x y:Int):Int:=cnd (Nat.ble b a) (small k (Nat.sub a b)) (subG k x y)
def mulN (a b:Nat) (k:IntKind) (x y:Int):Int:=small k (Nat.mul a b)
def quoN (a b:Nat) (k:IntKind) (x y:Int):Int:=small k (Nat.div a b)
def remN (a b:Nat) (k:IntKind) (x y:Int):Int:=.ofNat (Nat.mod a b)
def qadd (k:IntKind) (x y:Int):Int:=iop addN addG k x y
def qsub (k:IntKind) (x y:Int):Int:=iop subN subG k x y
def qmul (k:IntKind) (x y:Int):Int:=iop mulN mulG k x y
def qquo (k:IntKind) (x y:Int):Int:=iop quoN quoG k x y
def qrem (k:IntKind) (x y:Int):Int:=iop remN remG k x y
def qlt (x y:Int):Bool:=Int.rec (motive:=fun _=>Int→Bool) (fun a y=>Int.rec (motive:=fun _=>Nat→Bool) (fun b a=>Nat.blt a b) (fun _ _=>false) y a) (fun a y=>Int.rec (motive:=fun _=>Nat→Bool) (fun _ _=>true) (fun b a=>Nat.blt b a) y a) x y
def qeq (x y:Int):Bool:=Int.rec (motive:=fun _=>Int→Bool) (fun a y=>Int.rec (motive:=fun _=>Nat→Bool) (fun b a=>Nat.beq a b) (fun _ _=>false) y a) (fun a y=>Int.rec (motive:=fun _=>Nat→Bool) (fun _ _=>false) (fun b a=>Nat.beq a b) y a) x y
def qnot (b:Bool):Bool:=Bool.rec true false b
theorem qadd_eq (k:IntKind) (x y:Int):qadd k x y=iwrap k (x+y):=by
 cases x<;>cases y<;>try rfl
 exact small_eq _ _
theorem qsub_eq (k:IntKind) (x y:Int):qsub k x y=iwrap k (x - y):=by
 cases x<;>cases y<;>try rfl
 rename_i a b
 show cnd (Nat.ble b a) (small k (Nat.sub a b)) (subG k (.ofNat a) (.ofNat b))=_
 rw[cnd_eq]
 split
 ·rename_i hb
  rw[Nat.ble_eq]at hb
  rw[small_eq]
  have:(Int.ofNat a - Int.ofNat b)=Int.ofNat (Nat.sub a b):=by
   show (Int.ofNat a - Int.ofNat b)=Int.ofNat (a - b)
   simp only[Int.ofNat_eq_natCast];omega
  rw[this]
 ·rfl
theorem qmul_eq (k:IntKind) (x y:Int):qmul k x y=iwrap k (x*y):=by
 cases x<;>cases y<;>try rfl
 exact small_eq _ _
theorem qquo_eq (k:IntKind) (x y:Int):qquo k x y=iwrap k (x.tdiv y):=by
 cases x<;>cases y<;>try rfl
 exact small_eq _ _
theorem qrem_eq (k:IntKind) (x y:Int):qrem k x y=x.tmod y:=by cases x<;>cases y<;>rfl
theorem qlt_eq (x y:Int):qlt x y=ilt x y:=by cases x<;>cases y<;>rfl
theorem qeq_eq (x y:Int):qeq x y=ieq x y:=by cases x<;>cases y<;>rfl
theorem qnot_eq (b:Bool):qnot b = !b:=by cases b<;>rfl
theorem cnd_bif {α:Type}(b:Bool) (x y:α):cnd b x y=bif b then x else y:=by cases b<;>rfl
def nsh (k:IntKind) (n:Nat):Nat:=cnd (Nat.ble n k.bits) n k.bits
theorem nsh_eq (k:IntKind) (n:Nat):nsh k n=min n k.bits:=by
 rw[nsh,cnd_eq]
 by_cases h:n≤k.bits
 ·rw[if_pos (by rw[Nat.ble_eq];exact h),Nat.min_eq_left h]
 ·rw[if_neg (by rw[Nat.ble_eq];exact h),Nat.min_eq_right (by omega)]
def qshl (k:IntKind) (x y:Int):Option AV:=
 Int.rec (motive:=fun _=>Int→IntKind→Option AV) (fun a y k=>Int.rec (motive:=fun _=>Nat→IntKind→Option AV) (fun n a k=>some (.i k (small k (Nat.mul a (Nat.pow 2 (nsh k n)))))) (fun _ _ _=>none) y a k) (fun a y k=>ishf .shl k (.negSucc a) y) x y k
def qshr (k:IntKind) (x y:Int):Option AV:=
 Int.rec (motive:=fun _=>Int→IntKind→Option AV) (fun a y k=>Int.rec (motive:=fun _=>Nat→IntKind→Option AV) (fun n a k=>some (.i k (.ofNat (Nat.div a (Nat.pow 2 (nsh k n)))))) (fun _ _ _=>none) y a k) (fun a y k=>ishf .shr k (.negSucc a) y) x y k
theorem qshl_eq (k:IntKind) (x y:Int):qshl k x y=ishf .shl k x y:=by
 cases x with
 | negSucc a=>rfl
 | ofNat a=>cases y with
   | negSucc n=>rfl
   | ofNat n=>
     show some (AV.i k (small k (a*2 ^ nsh k n)))=some (AV.i k (iwrap k (Int.ofNat a*((2 ^ (min n k.bits):Nat):Int))))
     rw[small_eq,nsh_eq];rfl
theorem qshr_eq (k:IntKind) (x y:Int):qshr k x y=ishf .shr k x y:=by
 cases x with
 | negSucc a=>rfl
 | ofNat a=>cases y with
   | negSucc n=>rfl
   | ofNat n=>
     show some (AV.i k (Int.ofNat (a / 2 ^ nsh k n)))=some (AV.i k ((Int.ofNat a).fdiv ((2 ^ (min n k.bits):Nat):Int)))
     rw[nsh_eq]
     have:=Int.ofNat_fdiv a (2 ^ (min n k.bits))
     simp only[Int.ofNat_eq_natCast]at this ⊢
     rw[this]
def ikq:BinOp→IntKind→IntKind→Int→Int→Option AV:=
 BinOp.rec (motive:=fun _=>IntKind→IntKind→Int→Int→Option AV)
  (fun k k' x y=>cnd (keq k k') (some (.i k (qadd k x y))) none) (fun k k' x y=>cnd (keq k k') (some (.i k (qsub k x y))) none) (fun k k' x y=>cnd (keq k k') (some (.i k (qmul k x y))) none)
  (fun k k' x y=>cnd (keq k k') (cnd (qeq y (.ofNat 0)) none (some (.i k (qquo k x y)))) none) (fun k k' x y=>cnd (keq k k') (cnd (qeq y (.ofNat 0)) none (some (.i k (qrem k x y)))) none)
  (fun k k' x y=>cnd (keq k k') (ikin .and k x y) none) (fun k k' x y=>cnd (keq k k') (ikin .or k x y) none) (fun k k' x y=>cnd (keq k k') (ikin .xor k x y) none) (fun k _ x y=>qshl k x y) (fun k _ x y=>qshr k x y) (fun _ _ _ _=>none)
  (fun k k' x y=>cnd (keq k k') (some (.b (qeq x y))) none) (fun k k' x y=>cnd (keq k k') (some (.b (qnot (qeq x y)))) none) (fun k k' x y=>cnd (keq k k') (some (.b (qlt x y))) none)
  (fun k k' x y=>cnd (keq k k') (some (.b (qnot (qlt y x)))) none) (fun k k' x y=>cnd (keq k k') (some (.b (qlt y x))) none) (fun k k' x y=>cnd (keq k k') (some (.b (qnot (qlt x y)))) none)
theorem ikq_ok {P:Program}{op:BinOp}{t:TypeId}{xo yo:Operand}{k k':IntKind}{x y:Int}{r:AV}(h:ikq op k k' x y=some r):abin P op t xo yo (.i k x) (.i k' y)=some r:=by
 cases op
 case shl=>exact (qshl_eq k x y).symm.trans h
 case shr=>exact (qshr_eq k x y).symm.trans h
 all_goals first|exact h|(cases h;done)|skip
 all_goals
  simp only[ikq,cnd_bif,qadd_eq,qsub_eq,qmul_eq,qquo_eq,qrem_eq,qlt_eq,qeq_eq,qnot_eq]at h
  simp only[abin,ikin]
  exact h
def aoi (f:IntKind→Int→Option AV) (g:Option AV) (v:AV):Option AV:=
 AV.rec (motive_1:=fun _=>(IntKind→Int→Option AV)→Option AV→Option AV) (motive_2:=fun _=>Unit) (fun _ _ g=>g) (fun k n f _=>f k n) (fun _ _ _ g=>g) (fun _ _ _ g=>g) (fun _ g=>g) (fun _ _ _ _ _ _ _ g=>g) (fun _ g=>g) (fun _ _ g=>g) (fun _ g=>g) (fun _ _ _ _ _ _ g=>g) (fun _ g=>g) (fun _ _ _ _ g=>g) (fun _ g=>g) (fun _ _ _ g=>g) (fun _ _ _ g=>g) (fun _ _ g=>g) ⟨⟩ (fun _ _ _ _=>⟨⟩) v f g
def aop_ (f:Nat→Nat→Option AV) (g:Option AV) (v:AV):Option AV:=
 AV.rec (motive_1:=fun _=>(Nat→Nat→Option AV)→Option AV→Option AV) (motive_2:=fun _=>Unit) (fun _ _ g=>g) (fun _ _ _ g=>g) (fun _ _ _ g=>g) (fun i o f _=>f i o) (fun _ g=>g) (fun _ _ _ _ _ _ _ g=>g) (fun _ g=>g) (fun _ _ g=>g) (fun _ g=>g) (fun _ _ _ _ _ _ g=>g) (fun _ g=>g) (fun _ _ _ _ g=>g) (fun _ g=>g) (fun _ _ _ g=>g) (fun _ _ _ g=>g) (fun _ _ g=>g) ⟨⟩ (fun _ _ _ _=>⟨⟩) v f g
def aob (a b:Option AV) (v:AV):Option AV:=
 AV.rec (motive_1:=fun _=>Option AV→Option AV→Option AV) (motive_2:=fun _=>Unit) (fun x a b=>cnd x a b) (fun _ _ _ _=>none) (fun _ _ _ _=>none) (fun _ _ _ _=>none) (fun _ _=>none) (fun _ _ _ _ _ _ _ _=>none) (fun _ _=>none) (fun _ _ _=>none) (fun _ _=>none) (fun _ _ _ _ _ _ _=>none) (fun _ _=>none) (fun _ _ _ _ _=>none) (fun _ _=>none) (fun _ _ _ _=>none) (fun _ _ _ _=>none) (fun _ _ _=>none) ⟨⟩ (fun _ _ _ _=>⟨⟩) v a b
def aon (v:AV):Option Nat:=
 AV.rec (motive_1:=fun _=>Option Nat) (motive_2:=fun _=>Unit) (fun _=>none) (fun _ n=>Int.rec (motive:=fun _=>Option Nat) (fun a=>some a) (fun _=>none) n) (fun _ _=>none) (fun _ _=>none) none (fun _ _ _ _ _ _=>none) none (fun _=>none) none (fun _ _ _ _ _=>none) none (fun _ _ _=>none) none (fun _ _=>none) (fun _ _=>none) (fun _=>none) ⟨⟩ (fun _ _ _ _=>⟨⟩) v
def abinq (P:Program) (op:BinOp) (t:TypeId) (xo yo:Operand) (a b:AV):Option AV:=aoi (fun k x=>aoi (fun k' y=>ikq op k k' x y) (abin P op t xo yo a b) b) (abin P op t xo yo a b) a
theorem abinq_ok {P:Program}{op:BinOp}{t:TypeId}{xo yo:Operand}{a b r:AV}(h:abinq P op t xo yo a b=some r):abin P op t xo yo a b=some r:=by
 cases a<;>try exact h
 cases b<;>try exact h
 exact ikq_ok h
def ob {α β:Type}(x:Option α) (f:α→Option β):Option β:=Option.rec none (fun a=>f a) x
theorem ob_some {α β:Type}{x:Option α}{f:α→Option β}{r:β}(h:ob x f=some r):∃ a,x=some a∧f a=some r:=by
 cases x with
 | none=>cases h
 | some a=>exact ⟨a,rfl,h⟩
def qbin (P:Program) (ρ:Rho) (op:BinOp) (t:TypeId) (x y:Operand):Option AV:=ob (ρ x) fun a=>ob (ρ y) fun b=>abinq P op t x y a b
def qpick (ρ:Rho) (c a b:Operand):Option AV:=ob (ρ c) fun v=>aob (ρ a) (ρ b) v
def qbd (ρ:Rho) (x:Operand):Option Nat:=ob (ρ x) aon
def qnil (ρ:Rho) (x:Operand):Option AV:=ob (ρ x) fun v=>aop_ (fun i o=>some (.p i o)) (apure default (fun _=>some v) (.nilCheck x)) v
theorem qbin_ok {P:Program}{ρ:Rho}{op:BinOp}{t u:TypeId}{x y:Operand}{r:AV}(h:qbin P ρ op t x y=some r):apure P ρ (.binOp op t x y u)=some r:=by
 obtain ⟨a,h1,h⟩:=ob_some h
 obtain ⟨b,h2,h⟩:=ob_some h
 simp only[apure,h1,h2]
 exact abinq_ok h
theorem qpick_ok {P:Program}{ρ:Rho}{c a b:Operand}{r:AV}(h:qpick ρ c a b=some r):apure P ρ (.pick c a b)=some r:=by
 obtain ⟨v,h1,h⟩:=ob_some h
 cases v<;>try (cases h;done)
 rename_i x
 simp only[apure,h1]
 cases x<;>exact h
theorem qbd_ok {ρ:Rho}{x:Operand}{r:Nat}(h:qbd ρ x=some r):bd ρ x=some r:=by
 obtain ⟨v,h1,h⟩:=ob_some h
 cases v<;>try (cases h;done)
 rename_i k n
 cases n<;>try (cases h;done)
 simp only[bd,h1]
 exact h
theorem qnil_ok {P:Program}{ρ:Rho}{x:Operand}{r:AV}(h:qnil ρ x=some r):apure P ρ (.nilCheck x)=some r:=by
 obtain ⟨v,h1,h⟩:=ob_some h
 have e:apure P ρ (.nilCheck x)=apure default (fun _=>some v) (.nilCheck x):=by simp only[apure,h1]
 rw[e]
 cases v<;>exact h
def qload (P:Program) (S:St) (ρ:Rho) (t:TypeId) (x:Operand):Option AV:=ob (ρ x) fun v=>aop_ (fun i o=>ob (S.h.get i) fun b=>Blk.rec (motive:=fun _=>Program→TypeId→Nat→Option AV) (fun _ cs _ _ P t o=>ald P t cs o) (fun _ _ _ _ _=>none) (fun _ _ _ _ _ _=>none) b P t o) none v
theorem qload_ok {P:Program}{S:St}{ρ:Rho}{t:TypeId}{x:Operand}{r:AV}(h:qload P S ρ t x=some r):ard P S.lk ρ (.load t x)=some r:=by
 obtain ⟨v,h1,h⟩:=ob_some h
 cases v<;>try (cases h;done)
 rename_i i o
 obtain ⟨b,h2,h⟩:=ob_some h
 cases b<;>try (cases h;done)
 rename_i t' cs fz ex
 have h3:S.lk i=some (.cells t' cs fz ex):=h2
 have h4:ald P t cs o=some r:=h
 simp only[ard,aload,h1,h3,h4]
def acvk (P:Program) (s d:TypeId):Option IntKind:=
 match und P s,und P d with
 | some _,some (.int k)=>some k
 | _,_=>none
def qconv (P:Program) (ρ:Rho) (s d:TypeId) (x:Operand):Option AV:=ob (ρ x) fun a=>aoi (fun _ n=>ob (acvk P s d) fun k=>some (.i k (qwrap k n))) (acv P s d a) a
theorem qconv_ok {P:Program}{ρ:Rho}{s d:TypeId}{x:Operand}{r:AV}(h:qconv P ρ s d x=some r):apure P ρ (.convert s d x)=some r:=by
 obtain ⟨v,h1,h⟩:=ob_some h
 simp only[apure,h1]
 cases v<;>try exact h
 obtain ⟨k,h2,h⟩:=ob_some h
 unfold acvk at h2
 split at h2
 ·rename_i u k' hs hd
  obtain rfl:=Option.some.inj h2
  simp only[acv,hs,hd,← qwrap_eq];exact h
 ·cases h2
def qfda (P:Program) (ρ:Rho) (s:TypeId) (x:Operand) (f:Nat):Option AV:=ob (ρ x) fun a=>afda P s a f
theorem qfda_ok {P:Program}{ρ:Rho}{s:TypeId}{x:Operand}{f:Nat}{r:AV}(h:qfda P ρ s x f=some r):apure P ρ (.fieldAddr s x f)=some r:=by
 obtain ⟨v,h1,h⟩:=ob_some h
 simp only[apure,h1];exact h
def qixa (P:Program) (ρ:Rho) (t:TypeId) (x i:Operand):Option AV:=ob (ρ x) fun a=>ob (qbd ρ i) fun n=>aixa P t a n
theorem qixa_ok {P:Program}{ρ:Rho}{t:TypeId}{x i:Operand}{r:AV}(h:qixa P ρ t x i=some r):apure P ρ (.indexAddr t x i)=some r:=by
 obtain ⟨v,h1,h⟩:=ob_some h
 obtain ⟨n,h2,h⟩:=ob_some h
 simp only[apure,h1,qbd_ok h2];exact h
def qidx (P:Program) (ρ:Rho) (t:TypeId) (x i:Operand):Option AV:=ob (ρ x) fun a=>ob (qbd ρ i) fun n=>aidx P t a n
theorem qidx_ok {P:Program}{ρ:Rho}{t:TypeId}{x i:Operand}{r:AV}(h:qidx P ρ t x i=some r):apure P ρ (.index t x i)=some r:=by
 obtain ⟨v,h1,h⟩:=ob_some h
 obtain ⟨n,h2,h⟩:=ob_some h
 simp only[apure,h1,qbd_ok h2];exact h
def aopN (v:AV):Option (Nat × Nat):=
 AV.rec (motive_1:=fun _=>Option (Nat × Nat)) (motive_2:=fun _=>Unit) (fun _=>none) (fun _ _=>none) (fun _ _=>none) (fun i o=>some (i,o)) none (fun _ _ _ _ _ _=>none) none (fun _=>none) none (fun _ _ _ _ _=>none) none (fun _ _ _=>none) none (fun _ _=>none) (fun _ _=>none) (fun _=>none) ⟨⟩ (fun _ _ _ _=>⟨⟩) v
def atpN (v:AV):Option (List AV):=
 AV.rec (motive_1:=fun _=>Option (List AV)) (motive_2:=fun _=>Unit) (fun _=>none) (fun _ _=>none) (fun _ _=>none) (fun _ _=>none) none (fun _ _ _ _ _ _=>none) none (fun _=>none) none (fun _ _ _ _ _=>none) none (fun _ _ _=>none) none (fun _ _=>none) (fun l _=>some l) (fun _=>none) ⟨⟩ (fun _ _ _ _=>⟨⟩) v
def qasB:Blk→Nat→St→Nat→Nat→List AV→Option St:=
 Blk.rec (motive:=fun _=>Nat→St→Nat→Nat→List AV→Option St) (fun t cs fz ex g S id off l=>cnd (Nat.ble g id) (cnd (Nat.ble fz off) (cnd (Nat.ble (Nat.add off (len l)) (len cs)) (cnd (allc l) (some ⟨S.h.put (some (.cells t (putR off l cs) fz ex)) id,S.nx⟩) none) none) none) none) (fun _ _ _ _ _ _ _=>none) (fun _ _ _ _ _ _ _ _=>none)
def qsto (P:Program) (g:Nat) (S:St) (ρ:Rho) (t:TypeId) (x v:Operand):Option St:=
 ob (ob (ρ x) aopN) fun q=>ob (ρ v) fun a=>ob (szo P t) fun n=>cnd (Nat.beq (len (cel a)) n) (ob (S.h.get q.1) fun b=>qasB b g S q.1 q.2 (cel a)) none
theorem qasB_ok {b:Blk}{g:Nat}{S S':St}{id off:Nat}{l:List AV}(hb:S.h.get id=some b) (h:qasB b g S id off l=some S'):asto g S id off l=some S'∧S'.nx=S.nx:=by
 cases b with
 | cells t cs fz ex=>
   have h:cnd (Nat.ble g id) (cnd (Nat.ble fz off) (cnd (Nat.ble (off+len l) (len cs)) (cnd (allc l) (some (⟨S.h.put (some (.cells t (putR off l cs) fz ex)) id,S.nx⟩:St)) none) none) none) none=some S':=h
   simp only[cnd_bif]at h
   cases h1:Nat.ble g id<;>rw[h1]at h<;>try (cases h;done)
   cases h2:Nat.ble fz off<;>rw[h2]at h<;>try (cases h;done)
   cases h3:Nat.ble (off+len l) (len cs)<;>rw[h3]at h<;>try (cases h;done)
   cases h4:allc l<;>rw[h4]at h<;>try (cases h;done)
   simp only[cond_true]at h
   refine ⟨?_,by rw[← Option.some.inj h]⟩
   unfold asto
   simp only[hb,h1,h2,h3,h4,Bool.and_self,cond_true]
   exact h
 | map _ _=>cases h
 | it _ _ _=>cases h
theorem qsto_ok {P:Program}{g:Nat}{S S':St}{ρ:Rho}{t:TypeId}{x v:Operand}(h:qsto P g S ρ t x v=some S'):awr P g S ρ (.store t x v)=some (.tp [],S')∧S'.nx=S.nx:=by
 obtain ⟨q,h1,h⟩:=ob_some h
 obtain ⟨p,h0,h1⟩:=ob_some h1
 obtain ⟨a,h2,h⟩:=ob_some h
 obtain ⟨n,h3,h⟩:=ob_some h
 cases p<;>try (cases h1;done)
 rename_i i o
 obtain rfl:q=(i,o):=(Option.some.inj h1).symm
 rw[cnd_bif]at h
 cases hl:Nat.beq (len (cel a)) n with
 | false=>rw[hl]at h;cases h
 | true=>
   rw[hl,cond_true]at h
   obtain ⟨b,h4,h⟩:=ob_some h
   obtain ⟨h5,h6⟩:=qasB_ok h4 h
   refine ⟨?_,h6⟩
   simp only[awr,h0,h2,h3,hl,cond_true,h5]
def qext (ρ:Rho) (x:Operand) (i:Nat):Option AV:=ob (ob (ρ x) atpN) fun l=>nth l i
theorem qext_ok {P:Program}{ρ:Rho}{x:Operand}{i:Nat}{r:AV}(h:qext ρ x i=some r):apure P ρ (.extract x i)=some r:=by
 obtain ⟨l,h1,h⟩:=ob_some h
 obtain ⟨v,h0,h1⟩:=ob_some h1
 cases v<;>try (cases h1;done)
 simp only[apure,h0]
 obtain rfl:=Option.some.inj h1
 exact h
def qfld (P:Program) (ρ:Rho) (t:TypeId) (x:Operand) (f:Nat):Option AV:=ob (ρ x) fun a=>afld P t a f
theorem qfld_ok {P:Program}{ρ:Rho}{t:TypeId}{x:Operand}{f:Nat}{r:AV}(h:qfld P ρ t x f=some r):apure P ρ (.field t x f)=some r:=by
 obtain ⟨v,h1,h⟩:=ob_some h
 simp only[apure,h1];exact h
def qsli (P:Program) (ρ:Rho) (t:TypeId) (x:Operand) (lo hi mx:Option Operand):Option AV:=ob (ρ x) fun a=>asli P ρ t a lo hi mx
theorem qsli_ok {P:Program}{ρ:Rho}{t:TypeId}{x:Operand}{lo hi mx:Option Operand}{r:AV}(h:qsli P ρ t x lo hi mx=some r):apure P ρ (.slice t x lo hi mx)=some r:=by
 obtain ⟨v,h1,h⟩:=ob_some h
 simp only[apure,h1];exact h
def qbul (P:Program) (ρ:Rho) (b:Builtin) (args:Array Operand) (tys:Array TypeId):Option AV:=ob (amap ρ args.toList) fun as=>abul P b tys.toList as
theorem qbul_ok {P:Program}{ρ:Rho}{b:Builtin}{args:Array Operand}{tys:Array TypeId}{r:AV}(h:qbul P ρ b args tys=some r):apure P ρ (.call ⟨.builtin b,args,tys⟩)=some r:=by
 obtain ⟨v,h1,h⟩:=ob_some h
 simp only[apure,h1];exact h
end
end Am
end
section
namespace Am
open Go
noncomputable section
inductive Out where
 | norm|exit (id:Nat)|ret
inductive Ex where
 | ok (o:Out) (e:Env) (S:St)
 | bad (l:List Nat)
inductive Rg where
 | ok (e:Env) (S:St)
 | bad (l:List Nat)
inductive Cl where
 | ok (v:AV) (S:St)
 | bad (l:List Nat)
structure Known where
 g:Nat
 enter:Nat→Bool
 ext:Nat→Nat
 mz:TypeId
 con:Nat→List AV→St→Option AV
def evoT:Operand→Known→Env→Option AV:=
 Operand.rec (motive:=fun _=>Known→Env→Option AV) (fun t _ env=>eget env t) (fun v _ _=>Option.rec (motive:=fun _=>Option AV) none (fun a=>some a) (konst v)) (fun g K _=>cnd (Nat.blt g K.g) (some (.p g 0)) none) (fun f _ _=>some (.fn (.func f) [] []))
def evo (K:Known) (env:Env):Rho:=fun x=>evoT x K env
def aput (n:Nat) (env:Env) (d:Option Tmp) (v:AV):Option Env:=
 Option.rec (motive:=fun _=>Option Env) (some env) (fun d=>cnd (Nat.blt d n) (some (eput env d v)) none) d
def aquiet (P:Program) (K:Known) (S:St) (ρ:Rho) (o:Op):Option (AV × St):=
 match apure P ρ o with
 | some v=>some (v,S)
 | none=>match ard P S.lk ρ o with
   | some v=>some (v,S)
   | none=>match aalloc P ρ o with
     | some (blk,f)=>bif Nat.ble K.g S.nx then some (f S.nx,⟨S.h.put (some blk) S.nx,Nat.succ S.nx⟩)else none
     | none=>match awr P K.g S ρ o with
       | some (v,S')=>bif Nat.ble S.nx S'.nx then some (v,S')else none
       | none=>none
def app2 (a b:List AV):List AV:=List.rec b (fun x _ ih=>x :: ih) a
def acallee (ρ:Rho) (o:Op):Option (FuncId × List AV):=
 match o with
 | .call c=>match c.callee with
   | .value x=>match ρ x,amap ρ c.args.toList with
     | some (.fn (.func f) a b),some as=>some (f,app2 a (app2 as b))
     | _,_=>none
   | _=>none
 | _=>none
def ienv (l:List AV):Nat→Env→Env:=List.rec (motive:=fun _=>Nat→Env→Env) (fun _ e=>e) (fun a _ go i e=>go (Nat.succ i) (eput e i a)) l
theorem ienv_nil (i:Nat) (e:Env):ienv [] i e=e:=rfl
theorem ienv_cons (a:AV) (l:List AV) (i:Nat) (e:Env):ienv (a :: l) i e=ienv l (Nat.succ i) (eput e i a):=rfl
def ares1 (P:Program) (K:Known) (env:Env) (S:St):ResultVar→Option AV
 | .tmp t=>eget env t
 | .cell a t=>match eget env a with
   | some (.p id off)=>match S.h.get id with
     | some (.cells _ cs _ _)=>ald P t cs off
     | _=>none
   | _=>none
def aressT:List ResultVar→Program→Known→Env→St→Option (List AV):=
 List.rec (motive:=fun _=>Program→Known→Env→St→Option (List AV)) (fun _ _ _ _=>some []) (fun r _ ih P K env S=>obl (ares1 P K env S r) (ih P K env S))
def aress (P:Program) (K:Known) (env:Env) (S:St) (l:List ResultVar):Option (List AV):=aressT l P K env S
def onet:List AV→AV:=List.rec (motive:=fun _=>AV) (.tp []) (fun a l _=>List.rec (motive:=fun _=>AV→AV) (fun a=>a) (fun b l _ a=>.tp (a :: b :: l)) l a)
def ares (P:Program) (K:Known) (env:Env) (S:St) (l:List ResultVar):Option AV:=Option.rec (motive:=fun _=>Option AV) none (fun l=>some (onet l)) (aress P K env S l)
def aibs (c:Nat) (n:Nat):Nat→Nat→Int:=Nat.rec (fun _ _=>-1) (fun _ ih x i=>bif Nat.beq (Nat.mod x 256) c then .ofNat i else ih (Nat.div x 256) (Nat.succ i)) n
def aextern (P:Program) (K:Known) (S:St) (k:Nat) (as:List AV):Option (AV × St):=
 match k,as with
 | 1,[.s n x,.i .u8 (.ofNat c)]=>bif Nat.blt c 256 then some (.i .i64 (aibs c n x 0),S)else none
 | 2,[a]=>some (a,S)
 | 3,[.i .i64 (.ofNat n)]=>match und P K.mz with
   | some (.slice e)=>bif Nat.ble K.g S.nx && Nat.ble n 1073741824 then some (.sl S.nx 0 n none 1 0,⟨S.h.put (some (.cells e [] 0 false)) S.nx,Nat.succ S.nx⟩)else none
   | _=>none
 | _,_=>none
def aext (P:Program) (K:Known) (S:St) (f:FuncId) (as:List AV):Option (AV × St):=
 match aextern P K S (K.ext f) as with
 | some p=>some p
 | none=>match K.con (K.ext f) as S with
   | some v=>some (v,S)
   | none=>none
def acallf (P:Program) (K:Known) (ih:Code→Nat→Env→St→Ex) (S:St) (f:FuncId) (as:List AV):Cl:=
 bif K.enter f then
  match fnc P f with
  | none=>.bad [f]
  | some fn=>match fn.body with
    | none=>.bad [f]
    | some c=>bif Nat.ble (len as) fn.ntmps then
     match ih c fn.ntmps (ienv as 0 enew) S with
     | .bad l=>.bad (f :: l)
     | .ok .norm env S'=>match ares P K env S' fn.results.toList with
       | some v=>.ok v S'
       | none=>.bad [f,777]
     | .ok .ret env S'=>match ares P K env S' fn.results.toList with
       | some v=>.ok v S'
       | none=>.bad [f,778]
     | .ok (.exit _) _ _=>.bad [f,779]
     else .bad [f,780]
 else match aext P K S f as with
  | some (v,S')=>.ok v S'
  | none=>.bad [f,781]
def aop0 (P:Program) (K:Known) (ih:Code→Nat→Env→St→Ex) (S:St) (ρ:Rho) (o:Op):Cl:=
 match aquiet P K S ρ o with
 | some (v,S')=>.ok v S'
 | none=>match acallee ρ o with
   | some (f,as)=>acallf P K ih S f as
   | none=>.bad []
def clo (S:St) (x:Option AV) (g:Cl):Cl:=Option.rec g (fun v=>.ok v S) x
def cls (x:Option St):Cl:=Option.rec (motive:=fun _=>Cl) (.bad []) (fun S=>.ok (.tp []) S) x
def acall:Call→Program→Known→(Code→Nat→Env→St→Ex)→St→Rho→Cl:=
 Call.rec (motive:=fun _=>Program→Known→(Code→Nat→Env→St→Ex)→St→Rho→Cl) (fun ce=>Callee.rec (motive:=fun _=>Array Operand→Array TypeId→Program→Known→(Code→Nat→Env→St→Ex)→St→Rho→Cl) (fun _ _ _ _ _ _ _ _=>.bad []) (fun _ _ _ _ _ _ _ _ _=>.bad []) (fun b args tys P K ih S ρ=>clo S (qbul P ρ b args tys) (aop0 P K ih S ρ (.call ⟨.builtin b,args,tys⟩))) ce)
def aopT:Op→Program→Known→(Code→Nat→Env→St→Ex)→St→Rho→Cl:=
 Op.rec (motive:=fun _=>Program→Known→(Code→Nat→Env→St→Ex)→St→Rho→Cl)
  (fun x P K ih S ρ=>clo S (ρ x) (.bad [])) (fun x P K ih S ρ=>clo S (ρ x) (.bad [])) (fun c a b P K ih S ρ=>clo S (qpick ρ c a b) (.bad [])) (fun t P K ih S ρ=>aop0 P K ih S ρ (.alloc t))
  (fun t x P K ih S ρ=>aop0 P K ih S ρ (.box t x)) (fun t l P K ih S ρ=>aop0 P K ih S ρ (.build t l)) (fun t n l P K ih S ρ=>aop0 P K ih S ρ (.buildSlice t n l)) (fun t a b c P K ih S ρ=>aop0 P K ih S ρ (.insert t a b c))
  (fun t x P K ih S ρ=>clo S (qload P S ρ t x) (.bad [])) (fun t x v P K ih S ρ=>cls (qsto P K.g S ρ t x v)) (fun _ _ _ _ _ _=>.bad []) (fun _ _ _ _ _ _=>.bad [])
  (fun x P K ih S ρ=>clo S (qnil ρ x) (.bad [])) (fun op t x y _ P K ih S ρ=>clo S (qbin P ρ op t x y) (.bad [])) (fun op t x P K ih S ρ=>aop0 P K ih S ρ (.unOp op t x)) (fun s d x P K ih S ρ=>clo S (qconv P ρ s d x) (aop0 P K ih S ρ (.convert s d x)))
  (fun _ _ _ _ _ _ _=>.bad []) (fun t x P K ih S ρ=>aop0 P K ih S ρ (.makeInterface t x)) (fun f a b P K ih S ρ=>aop0 P K ih S ρ (.makeFunc f a b)) (fun t x P K ih S ρ=>aop0 P K ih S ρ (.makeMap t x))
  (fun _ _ _ _ _ _ _=>.bad []) (fun t x y P K ih S ρ=>aop0 P K ih S ρ (.makeSlice t x y)) (fun t x a b c P K ih S ρ=>clo S (qsli P ρ t x a b c) (aop0 P K ih S ρ (.slice t x a b c))) (fun s x f P K ih S ρ=>clo S (qfda P ρ s x f) (.bad []))
  (fun t x f P K ih S ρ=>clo S (qfld P ρ t x f) (.bad [])) (fun t x i P K ih S ρ=>clo S (qixa P ρ t x i) (.bad [])) (fun t x i P K ih S ρ=>clo S (qidx P ρ t x i) (.bad [])) (fun t x k o P K ih S ρ=>aop0 P K ih S ρ (.lookup t x k o))
  (fun t a b c P K ih S ρ=>aop0 P K ih S ρ (.mapUpdate t a b c)) (fun t a b P K ih S ρ=>aop0 P K ih S ρ (.mapEntry t a b)) (fun t a b c P K ih S ρ=>aop0 P K ih S ρ (.entryStore t a b c)) (fun t x P K ih S ρ=>aop0 P K ih S ρ (.range t x))
  (fun x b P K ih S ρ=>aop0 P K ih S ρ (.next x b)) (fun _ _ _ _ _ _=>.bad []) (fun _ _ _ _ _ _ _ _ _=>.bad []) (fun x i P K ih S ρ=>clo S (qext ρ x i) (.bad []))
  (fun c P K ih S ρ=>acall c P K ih S ρ) (fun _ _ _ _ _ _=>.bad []) (fun _ _ _ _ _ _=>.bad []) (fun _ _ _ _ _ _=>.bad [])
  (fun _ _ _ _ _ _ _=>.bad []) (fun _ _ _ _ _ _ _ _=>.bad []) (fun _ _ _ _ _ _ _=>.bad [])
def aop (P:Program) (K:Known) (ih:Code→Nat→Env→St→Ex) (S:St) (ρ:Rho) (o:Op):Cl:=aopT o P K ih S ρ
def awant1 (all:List Oper) (env:Env) (j:Nat) (w:Bool):Option Bool:=
 match nth all j with
 | some oj=>match oj.dst with
   | some t=>match eget env t with
     | some (.b x)=>some (x == w)
     | some (.tp _)=>some false
     | _=>none
   | none=>none
 | none=>none
def awant (all:List Oper) (env:Env) (o:Oper):Option Bool:=
 Option.rec (motive:=fun _=>Option Bool) (some true) (fun g=>awant1 all env g.1 g.2) o.guard
abbrev IH:=Code→Nat→Env→St→Ex
abbrev Draw:=IH→Array Oper→Nat→Nat→Env→St→Rg
end
end Am
end
section
namespace Am
open Go
noncomputable section
variable {P:Program}{K:Known}
def EnvOk (m:Map) (env:Env) (tmps:Array Value):Prop:=∀ t a,eget env t=some a→∃ v,tmps[t]?=some v∧cvo m a=some v
theorem EnvOk.ext {m m':Map}{env:Env}{tmps:Array Value}(h:EnvOk m env tmps) (he:Ext m m'):EnvOk m' env tmps:=fun t a ha=>by
 obtain ⟨v,h1,h2⟩:=h t a ha
 exact ⟨v,h1,cvo_mono he _ h2⟩
def Gl (K:Known) (m:Map):Prop:=∀ g,g<K.g→∃ e,m g=some ⟨g,0,e⟩
theorem Gl.ext {m m':Map}(h:Gl K m) (he:Ext m m'):Gl K m':=fun g hg=>by
 obtain ⟨e,h1⟩:=h g hg
 exact ⟨e,he _ _ h1⟩
theorem evo_ok {m:Map}{env:Env}{a:Act}(hG:Gl K m) (hE:EnvOk m env a.tmps):RhoOk m (evo K env) a.eval:=fun x v hx=>by
 cases x with
 | tmp t=>
   obtain ⟨u,h1,h2⟩:=hE t v hx
   simp[Act.eval,h1,h2]
 | const c=>
   have hx:Option.rec (motive:=fun _=>Option AV) none (fun a=>some a) (konst c)=some v:=hx
   cases hk:konst c with
   | none=>rw[hk]at hx;cases hx
   | some a=>rw[hk]at hx;exact konst_ok (hk.trans hx)
 | global g=>
   have hx:cnd (Nat.blt g K.g) (some (AV.p g 0)) none=some v:=hx
   rw[cnd_bif]at hx
   cases hb:Nat.blt g K.g with
   | false=>rw[hb]at hx;cases hx
   | true=>
     rw[hb,cond_true]at hx
     rw[blt_iff]at hb
     obtain rfl:=Option.some.inj hx
     obtain ⟨e,he⟩:=hG g hb
     simp[cvo,he,Act.eval]
 | func f=>
   obtain rfl:=Option.some.inj hx
   simp[cvo,cvs,Act.eval]
def Upd (n:Nat) (env:Env) (d:Option Tmp) (v:AV) (env':Env):Prop:=
 match d with
 | none=>env'=env
 | some d=>d<n∧∀ k a,eget env' k=some a→(k=d∧a=v)∨(k≠d∧eget env k=some a)
theorem aput_upd {n:Nat}{env env':Env}{d:Option Tmp}{v:AV}(h:aput n env d v=some env'):Upd n env d v env':=by
 cases d with
 | none=>exact (Option.some.inj h).symm
 | some d=>
   have h:cnd (Nat.blt d n) (some (eput env d v)) none=some env':=h
   rw[cnd_bif]at h
   cases hb:Nat.blt d n with
   | false=>rw[hb]at h;cases h
   | true=>
     rw[hb,cond_true]at h
     rw[blt_iff]at hb
     obtain rfl:=Option.some.inj h
     exact ⟨hb,fun k a hk=>eget_eput hk⟩
theorem upd_ok {m:Map}{n:Nat}{env env':Env}{d:Option Tmp}{v:AV}{u:Value}{a:Act}(h:Upd n env d v env') (hE:EnvOk m env a.tmps) (hn:a.tmps.size=n) (hv:cvo m v=some u) :
 EnvOk m env' (a.put d u).tmps∧(a.put d u).tmps.size=n:=by
 cases d with
 | none=>obtain rfl:env'=env:=h;exact ⟨hE,hn⟩
 | some d=>
   obtain ⟨hb,h⟩:=h
   refine ⟨fun t x hx=>?_,by simp[Act.put,hn]⟩
   rcases h t x hx with ⟨rfl,rfl⟩|⟨hne,hx⟩
   ·exact ⟨u,by simp[Act.put,hn,hb],hv⟩
   ·obtain ⟨v',h1,h2⟩:=hE t x hx
    exact ⟨v',by simp only[Act.put];rw[Array.getElem?_setIfInBounds_ne (fun e=>hne e.symm)];exact h1,h2⟩
theorem put_defers (a:Act) (d:Option Tmp) (u:Value):(a.put d u).defers=a.defers:=by cases d<;>rfl
theorem aquiet_le {S S':St}{ρ:Rho}{o:Op}{r:AV}(h:aquiet P K S ρ o=some (r,S')):S.nx≤S'.nx:=by
 unfold aquiet at h
 split at h
 ·obtain ⟨_,rfl⟩:=Prod.mk.inj (Option.some.inj h);exact Nat.le_refl _
 ·split at h
  ·obtain ⟨_,rfl⟩:=Prod.mk.inj (Option.some.inj h);exact Nat.le_refl _
  ·split at h
   ·cases hb:Nat.ble K.g S.nx with
    | false=>rw[hb]at h;cases h
    | true=>
      rw[hb,cond_true]at h
      obtain ⟨_,rfl⟩:=Prod.mk.inj (Option.some.inj h);exact Nat.le_succ _
   ·split at h
    ·rename_i v S1 _
     cases hb:Nat.ble S.nx S1.nx with
     | false=>rw[hb]at h;cases h
     | true=>
       rw[hb,cond_true]at h
       obtain ⟨_,rfl⟩:=Prod.mk.inj (Option.some.inj h)
       rw[Nat.ble_eq]at hb;exact hb
    ·cases h
theorem aquiet_ok {m:Map}{S S':St}{w:World}(hR:R S.lk m w) (hf:Fre m S.nx S'.nx) {ρ:Rho}{ev:Operand→Value}(hρ:RhoOk m ρ ev) {o:Oper}{r:AV}(h:aquiet P K S ρ o.op=some (r,S')) :
 Done P K.g m S w S' r ((execOp ev o).run P w):=by
 unfold aquiet at h
 split at h
 ·rename_i v hv
  obtain ⟨rfl,rfl⟩:=Prod.mk.inj (Option.some.inj h)
  obtain ⟨z,h1,h2⟩:=apure_ok (P:=P) hρ hv
  exact ⟨m,w,_,z,h2 w,.inl rfl,h1,Step.refl hR⟩
 ·split at h
  ·rename_i v hv
   obtain ⟨rfl,rfl⟩:=Prod.mk.inj (Option.some.inj h)
   obtain ⟨z,h1,h2⟩:=ard_ok (P:=P) hR hρ hv
   exact ⟨m,w,_,z,h2,.inl rfl,h1,Step.refl hR⟩
  ·split at h
   ·rename_i blk f hv
    cases hb:Nat.ble K.g S.nx with
    | false=>rw[hb]at h;cases h
    | true=>
      rw[hb,cond_true]at h
      rw[Nat.ble_eq]at hb
      obtain ⟨rfl,rfl⟩:=Prod.mk.inj (Option.some.inj h)
      have hm:m S.nx=none:=hf S.nx (Nat.le_refl _) (Nat.lt_succ_self _)
      obtain ⟨ob,e,hn⟩:=aalloc_ok (P:=P) hρ hv
      obtain ⟨h1,u,h2,h3⟩:=hn (mset m S.nx ⟨w.heap.size,0,e⟩) S.nx w (w.alloc ob) (mset_ext hm) (mset_self _ _ _) rfl
      exact ⟨mset m S.nx ⟨w.heap.size,0,e⟩,w.alloc ob,_,u,h3,.inl rfl,h2,
       Step.new hR hb hm rfl rfl rfl rfl (fun j b hj=>T.get_put _ _ _ _ hj) (fun j hj=>T.get_put_ne _ _ _ _ hj) h1⟩
   ·split at h
    ·rename_i v S1 hv
     cases hb:Nat.ble S.nx S1.nx with
     | false=>rw[hb]at h;cases h
     | true=>
       rw[hb,cond_true]at h
       obtain ⟨rfl,rfl⟩:=Prod.mk.inj (Option.some.inj h)
       exact awr_ok (P:=P) hR hf hρ hv
    ·cases h
structure KnownOk (P:Program) (K:Known):Prop where
 enter:∀ f,K.enter f=true→∀ args w,(callFunc f args).run P w=.ok (.enter f args) w
 ext1:∀ f,K.enter f=false→K.ext f=1→∀ args w,(callFunc f args).run P w=((do pure (.value (← Extern.BytealgIndexByte.indexByte args)):Sem Next)).run P w
 ext2:∀ f,K.enter f=false→K.ext f=2→∀ args w,(callFunc f args).run P w=((do pure (.value (← Extern.AbiNoEscape.same args)):Sem Next)).run P w
 ext3:∀ f,K.enter f=false→K.ext f=3→∃ ps rs:Array TypeId,rs[0]?=some K.mz∧∀ args w,(callFunc f args).run P w=((do pure (.value (← Extern.BytealgMakeNoZero.makeNoZero ps rs args)):Sem Next)).run P w
 con:∀ f,K.enter f=false→∀ as S v,K.con (K.ext f) as S=some v→(∀ args w,(callFunc f args).run P w=.ok (.enter f args) w) ∧
  ∀ m w args,R S.lk m w→Gl K m→cvs m as=some args→∃ u,cvo m v=some u∧Calls P f args.toArray w fun e w'=>e=.returned u∧Go.RowKit.Below w.heap.size w w'
 mixed:P.follows .mixedOrders=true
def Out.exit':Out→Exit
 | .norm=>.normal
 | .exit id=>.exit id
 | .ret=>.ret
def Out.ex:Out→Exit:=Out.exit'
def Sound (P:Program) (K:Known) (ih:Code→Nat→Env→St→Ex):Prop:=
 ∀ c n env S o env' S',ih c n env S=.ok o env' S'→S.nx≤S'.nx ∧
   ∀ m a w,R S.lk m w→Fre m S.nx S'.nx→Gl K m→EnvOk m env a.tmps→a.tmps.size=n→a.defers = [] →
     ∀ Q:Exit→Act→World→Prop,(∀ m' a' w',Step K.g m S.lk S.nx w m' S'.lk S'.nx w'→EnvOk m' env' a'.tmps→a'.tmps.size=n→a'.defers = []→Q o.ex a' w')→c.wp P Q a w
theorem app2_eq (a b:List AV):app2 a b=a ++ b:=by
 induction a with
 | nil=>rfl
 | cons x a ih=>rw[List.cons_append,← ih];rfl
theorem acallee_ok {m:Map}{ρ:Rho}{ev:Operand→Value}(hρ:RhoOk m ρ ev) {o:Oper}{f:FuncId}{as:List AV}(h:acallee ρ o.op=some (f,as)) :
 ∃ args,cvs m as=some args∧∀ w,(execOp ev o).run P w=(callFunc f args.toArray).run P w:=by
 obtain ⟨dst,op,type,pos,after,guard⟩:=o
 cases op<;>simp only[acallee,reduceCtorEq]at h
 case call c=>
  split at h
  ·rename_i x hx
   split at h
   ·rename_i f' a b as' hf has
    obtain ⟨rfl,rfl⟩:=Prod.mk.inj (Option.some.inj h)
    have hfv:=hρ _ _ hf
    simp only[cvo,Option.bind_eq_some_iff,Option.map_eq_some_iff]at hfv
    obtain ⟨a',h1,b',h2,h3⟩:=hfv
    have hm:=amap_ok hρ has
    refine ⟨a' ++ (c.args.toList.map ev ++ b'),by rw[app2_eq,app2_eq];exact cvs_append h1 (cvs_append hm h2),fun w=>?_⟩
    have e:a'.toArray ++ c.args.map ev ++ b'.toArray=(a' ++ (c.args.toList.map ev ++ b')).toArray:=by apply Array.ext';simp
    simp only[execOp,resolve,hx,Deferred.ofValue,← h3,Sem.run_bind,Sem.run_pure,Result.andThen_ok,invoke,e]
   ·cases h
  ·cases h
theorem ienv_ok {m:Map}{l:List AV}:∀ {vs:List Value}{i:Nat}{env:Env}{tmps:Array Value},cvs m l=some vs→(∀ j v,vs[j]?=some v→tmps[i+j]?=some v)→EnvOk m env tmps→EnvOk m (ienv l i env) tmps:=by
 induction l with
 | nil=>
   intro vs i env tmps hl ht hE
   rw[ienv_nil];exact hE
 | cons a l ih=>
   intro vs i env tmps hl ht hE
   obtain ⟨v,vs',h1,h2,rfl⟩:=cvs_cons.1 hl
   rw[ienv_cons]
   refine ih h2 (fun j u hu=>?_) (fun t x hx=>?_)
   ·have:=ht (j+1) u (by rw[List.getElem?_cons_succ];exact hu)
    rw[show Nat.succ i+j=i+(j+1) by omega];exact this
   ·rcases eget_eput hx with ⟨rfl,rfl⟩|⟨hne,hx⟩
    ·exact ⟨v,by have:=ht 0 v rfl;rwa [Nat.add_zero]at this,h1⟩
    ·exact hE t x hx
def rvs (tmps:Array Value):ResultVar→Sem Value
 | .tmp t=>pure (tmps.getD t undef)
 | .cell a t=>do loadVar t (← asAddr (tmps.getD a undef))
theorem ares1_ok {m:Map}{S:St}{env:Env}{a:Act}{w:World}(hR:R S.lk m w) (hE:EnvOk m env a.tmps) {r:ResultVar}{x:AV}(h:ares1 P K env S r=some x) :
 ∃ v,cvo m x=some v∧(rvs a.tmps r).run P w=.ok v w:=by
 cases r with
 | tmp t=>
   obtain ⟨v,h1,h2⟩:=hE t x h
   exact ⟨v,h2,by simp[rvs,h1]⟩
 | cell b t=>
   simp only[ares1]at h
   split at h
   ·rename_i id off hb
    split at h
    ·rename_i t' cs fz ex hlk
     obtain ⟨u,h1,h2⟩:=hE b _ hb
     obtain ⟨v,h3,h4⟩:=ald_ok (P:=P) hR hlk h h2
     simp only[cvo,Option.map_eq_some_iff]at h2
     obtain ⟨L,_,rfl⟩:=h2
     refine ⟨v,h3,?_⟩
     simp only[rvs,Array.getD_eq_getD_getElem?,h1,Option.getD_some,asAddr,Sem.run_bind,Sem.run_pure,Result.andThen_ok]
     simpa [Instr.loadAt,Instr.sureAddr]using h4
    ·cases h
   ·cases h
theorem aress_ok {m:Map}{S:St}{env:Env}{a:Act}{w:World}(hR:R S.lk m w) (hE:EnvOk m env a.tmps):∀ {l:List ResultVar}{xs:List AV},aress P K env S l=some xs →
 ∃ vs,cvs m xs=some vs∧(l.mapM (rvs a.tmps)).run P w=.ok vs w
 | [],xs,h=>by
   have h:some []=some xs:=h
   obtain rfl:=Option.some.inj h;exact ⟨[],rfl,rfl⟩
 | r :: l,xs,h=>by
   obtain ⟨x,ys,hx,hys,rfl⟩:=obl_some (x:=ares1 P K env S r) (y:=aress P K env S l) h
   obtain ⟨v,h1,h2⟩:=ares1_ok hR hE hx
   obtain ⟨vs,h3,h4⟩:=aress_ok hR hE hys
   refine ⟨v :: vs,cvs_cons.2 ⟨v,vs,h1,h3,rfl⟩,?_⟩
   rw[List.mapM_cons]
   simp only[Sem.run_bind,Sem.run_pure]
   rw[h2]
   simp only[Result.andThen_ok]
   rw[h4]
   rfl
theorem ares_ok {m:Map}{S:St}{env:Env}{a:Act}{w:World}(hR:R S.lk m w) (hE:EnvOk m env a.tmps) {fn:Func}{x:AV}(h:ares P K env S fn.results.toList=some x) :
 ∃ v,cvo m x=some v∧(results fn a.tmps).run P w=.ok v w:=by
 unfold ares at h
 have key:∀ {xs:List AV}{vs:List Value},aress P K env S fn.results.toList=some xs→cvs m xs=some vs→(fn.results.toList.mapM (rvs a.tmps)).run P w=.ok vs w →
  (results fn a.tmps).run P w=.ok (if h:vs.toArray.size=1 then vs.toArray[0]else .tuple vs.toArray) w:=by
  intro xs vs _ _ hr
  have e:results fn a.tmps=(do let vs ← fn.results.mapM (rvs a.tmps);pure (if h:vs.size=1 then vs[0]else .tuple vs)):=rfl
  rw[e,Sem.run_bind,Array.mapM_eq_mapM_toList,Sem.run_map,hr]
  rfl
 cases hy:aress P K env S fn.results.toList with
 | none=>rw[hy]at h;cases h
 | some ys=>
   rw[hy]at h
   have h:some (onet ys)=some x:=h
   obtain rfl:=Option.some.inj h
   obtain ⟨vs,h1,h2⟩:=aress_ok hR hE hy
   match ys,hy,h1 with
   | [],hy,h1=>
     simp[cvs]at h1;subst h1
     exact ⟨.tuple #[],rfl,by rw[key hy rfl h2];rfl⟩
   | [y],hy,h1=>
     obtain ⟨v,vs',h3,h4,rfl⟩:=cvs_cons.1 h1
     simp[cvs]at h4;subst h4
     exact ⟨v,h3,by rw[key hy h1 h2];rfl⟩
   | y :: z :: ys,hy,h1=>
     refine ⟨.tuple vs.toArray,by show (cvs m (y :: z :: ys)).map _=_;rw[h1];rfl,?_⟩
     rw[key hy h1 h2]
     have:¬ vs.toArray.size=1:=by
      intro hl
      rw[List.size_toArray,cvs_length h1]at hl
      simp at hl
     rw[dif_neg this]
end
end Am
end
section
namespace Am
open Go
noncomputable section
variable {P:Program}{K:Known}
theorem aibs_find (c:Nat) (hc:c<256):∀ (n x i:Nat),aibs c n x i=(match (List.range n).find? (fun j=>(unp n x)[j]! == UInt8.ofNat c)with|some j=>((i+j:Nat):Int)|none=>-1)
 | 0,x,i=>rfl
 | n+1,x,i=>by
   have hstep:aibs c (n+1) x i=bif Nat.beq (Nat.mod x 256) c then Int.ofNat i else aibs c n (Nat.div x 256) (Nat.succ i):=rfl
   have ih:=aibs_find c hc n (x / 256) (Nat.succ i)
   have e0:(unp (n+1) x)[0]! = UInt8.ofNat (x % 256):=rfl
   have es:∀ j,(unp (n+1) x)[j+1]! = (unp n (x / 256))[j]!:=fun j=>rfl
   rw[hstep,List.range_succ_eq_map,List.find?_cons,e0]
   by_cases h:x % 256=c
   ·have hb:Nat.beq (Nat.mod x 256) c=true:=by rw[Nat.beq_eq];exact h
    rw[hb,h];simp
   ·have hb:Nat.beq (Nat.mod x 256) c=false:=by rw[Bool.eq_false_iff,Ne,Nat.beq_eq];exact h
    have hne:(UInt8.ofNat (x % 256) == UInt8.ofNat c)=false:=by
     rw[beq_eq_false_iff_ne]
     intro he
     have:=congrArg UInt8.toNat he
     simp only[UInt8.toNat_ofNat']at this
     omega
    rw[hb,hne,cond_false]
    have e1:aibs c n (Nat.div x 256) (Nat.succ i)=aibs c n (x / 256) (Nat.succ i):=rfl
    rw[e1,ih,List.find?_map]
    have hp:((fun j=>(unp (n+1) x)[j]! == UInt8.ofNat c) ∘ Nat.succ)=(fun j=>(unp n (x / 256))[j]! == UInt8.ofNat c):=by
     funext j;exact congrArg (· == UInt8.ofNat c) (es j)
    rw[hp]
    cases (List.range n).find? (fun j=>(unp n (x / 256))[j]! == UInt8.ofNat c)with
    | none=>rfl
    | some j=>
      show ((Nat.succ i+j:Nat):Int)=((i+Nat.succ j:Nat):Int)
      congr 1;omega
theorem mz_digits:∀ (n t:Nat) (acc:Array Value),(Extern.BytealgMakeNoZero.digits n t acc).size=acc.size+n
 | 0,t,acc=>rfl
 | n+1,t,acc=>by rw[Extern.BytealgMakeNoZero.digits,mz_digits n];simp;omega
theorem aextern_ok (hK:KnownOk P K) {m:Map}{S S':St}{w:World}(hR:R S.lk m w) (hf:Fre m S.nx S'.nx) {f:FuncId}{as:List AV}{args:List Value}{r:AV}(he:K.enter f=false) (h:aextern P K S (K.ext f) as=some (r,S')) (ha:cvs m as=some args) :
 ∃ m' w' v,(callFunc f args.toArray).run P w=.ok (.value v) w'∧cvo m' r=some v∧Step K.g m S.lk S.nx w m' S'.lk S'.nx w':=by
 unfold aextern at h
 split at h
 ·rename_i n x c hk
  cases hb:Nat.blt c 256 with
  | false=>rw[hb]at h;cases h
  | true=>
  rw[hb,cond_true]at h
  rw[blt_iff]at hb
  obtain ⟨rfl,rfl⟩:=Prod.mk.inj (Option.some.inj h)
  obtain ⟨v1,vs1,h1,h2,rfl⟩:=cvs_cons.1 ha
  obtain ⟨v2,vs2,h3,h4,rfl⟩:=cvs_cons.1 h2
  simp[cvs]at h4;subst h4
  simp only[cvo,Option.ite_none_right_eq_some,Option.some.injEq]at h1 h3
  obtain ⟨hx,rfl⟩:=h1
  subst h3
  refine ⟨m,w,_,?_,rfl,Step.refl hR⟩
  rw[hK.ext1 f he hk]
  have hsz:(ByteArray.mk (unp n x).toArray).size=n:=by simp[ByteArray.size,unp_length]
  have hget:∀ i:Nat,(ByteArray.mk (unp n x).toArray)[i]! = (unp n x)[i]!:=by
   intro i
   by_cases hi:i<n
   ·have h5:i<(ByteArray.mk (unp n x).toArray).size:=by rw[hsz];exact hi
    have h6:i<(unp n x).length:=by rw[unp_length];exact hi
    rw[getElem!_pos (ByteArray.mk (unp n x).toArray) i h5,getElem!_pos (unp n x) i h6]
    rfl
   ·have h5:¬ i<(ByteArray.mk (unp n x).toArray).size:=by rw[hsz];exact hi
    have h6:¬ i<(unp n x).length:=by rw[unp_length];exact hi
    rw[getElem!_neg (ByteArray.mk (unp n x).toArray) i h5,getElem!_neg (unp n x) i h6]
  have key:(Extern.BytealgIndexByte.indexByte [Value.string ⟨(unp n x).toArray⟩,Value.int .u8 (Int.ofNat c)].toArray)=(match (List.range (ByteArray.mk (unp n x).toArray).size).find? (fun i=>(ByteArray.mk (unp n x).toArray)[i]! == (Int.ofNat c).toNat.toUInt8)with
   | some i=>pure (goInt i)
   | none=>pure (goInt (-1)):Sem Value):=rfl
  rw[key]
  have hfind:=aibs_find c hb n x 0
  have hpred:(fun i:Nat=>(ByteArray.mk (unp n x).toArray)[i]! == (Int.ofNat c).toNat.toUInt8)=(fun j:Nat=>(unp n x)[j]! == UInt8.ofNat c):=by
   funext i;rw[hget];rfl
  rw[hsz,hpred,hfind]
  cases (List.range n).find? (fun j=>(unp n x)[j]! == UInt8.ofNat c)with
  | none=>rfl
  | some j=>simp[goInt]
 ·rename_i a hk
  obtain ⟨rfl,rfl⟩:=Prod.mk.inj (Option.some.inj h)
  obtain ⟨v1,vs1,h1,h2,rfl⟩:=cvs_cons.1 ha
  simp[cvs]at h2;subst h2
  refine ⟨m,w,v1,?_,h1,Step.refl hR⟩
  rw[hK.ext2 f he hk]
  rfl
 ·rename_i n hk
  split at h
  rotate_left
  ·cases h
  rename_i e ht
  cases hb:(Nat.ble K.g S.nx && Nat.ble n 1073741824)with
  | false=>rw[hb]at h;cases h
  | true=>
  rw[hb,cond_true]at h
  rw[Bool.and_eq_true,Nat.ble_eq,Nat.ble_eq]at hb
  obtain ⟨rfl,rfl⟩:=Prod.mk.inj (Option.some.inj h)
  have hm:m S.nx=none:=hf S.nx (Nat.le_refl _) (Nat.lt_succ_self _)
  obtain ⟨v1,vs1,h1,h2,rfl⟩:=cvs_cons.1 ha
  simp[cvs]at h2;subst h2
  simp only[cvo,Option.some.injEq]at h1;subst h1
  obtain ⟨ps,rs,hrs,hrun⟩:=hK.ext3 f he hk
  obtain ⟨cap,hcap⟩:∃ cap,cap=Question.cut (.appendCap n 0 e) (w.tape w.drawn (.appendCap n 0 e)):=⟨_,rfl⟩
  have hge:n≤cap:=by rw[hcap];simp only[Question.cut];omega
  obtain ⟨by_,hby⟩:∃ b,b=Question.cut (.extern "internal/bytealg.MakeNoZero.bytes" 0) (w.tape (w.drawn+1) (.extern "internal/bytealg.MakeNoZero.bytes" 0)):=⟨_,rfl⟩
  refine ⟨mset m S.nx ⟨w.heap.size,0,cap⟩,w.drew.drew.alloc (.cells (Extern.BytealgMakeNoZero.digits cap by_ #[]) e),.slice (some ⟨w.heap.size,0,none⟩) n cap,?_,?_,?_⟩
  ·rw[hrun]
   have key:Extern.BytealgMakeNoZero.makeNoZero ps rs [Value.int .i64 (Int.ofNat n)].toArray=(do
    let some t:=rs[0]? | stuck "bytealg.MakeNoZero: no result type"
    let .slice elem ← underlying t|stuck "bytealg.MakeNoZero: slice type expected"
    if (Int.ofNat n)<0 || (Int.ofNat n) > 2 ^ 48 then runtimePanic (.error "makeslice: len out of range")
    let cap ← choose (.appendCap (Int.ofNat n).toNat 0 elem)
    askRoom cap
    let bytes ← choose (.extern "internal/bytealg.MakeNoZero.bytes" 0)
    let a ← newRow elem (Extern.BytealgMakeNoZero.digits cap bytes #[])
    pure (.slice (some a) (Int.ofNat n).toNat cap)):=rfl
   rw[key]
   have hc:(decide ((Int.ofNat n)<0) || decide ((Int.ofNat n) > 2 ^ 48))=false:=by
    rw[Bool.or_eq_false_iff]
    exact ⟨decide_eq_false (by simp),decide_eq_false (by simp only[Int.ofNat_eq_natCast];omega)⟩
   have hn0:(Int.ofNat n).toNat=n:=rfl
   simp only[hrs,Sem.run_bind,run_und ht,Result.andThen_ok,hc,Bool.false_eq_true,if_false,Sem.run_pure,hn0,run_choose,Question.forced,← hcap,run_askRoom,newRow,run_newObj]
   simp only[show decide ((0:Nat)=1)=false from rfl,Bool.false_eq_true,if_false,Result.andThen_ok,← hby]
   rfl
  ·simp only[cvo,mset_self,Option.bind_some,Option.getD_none,Nat.sub_zero,Nat.div_one]
   rw[if_pos ⟨hge,by omega,by omega⟩]
   by_cases e0:cap=0<;>simp[e0]
  ·refine Step.new (blk:=.cells e [] 0 false) hR hb.1 hm rfl rfl rfl rfl (fun j b hj=>T.get_put _ _ _ _ hj) (fun j hj=>T.get_put_ne _ _ _ _ hj) ?_
   refine ⟨_,Extern.BytealgMakeNoZero.digits cap by_ #[],(0,0),[],mset_self _ _ _,(by show (w.heap.push _)[w.heap.size]?=_;simp),by rw[mz_digits];simp,by simp,rfl,fun i v hv=>by simp at hv,fun i _ _ hh=>by simp at hh,fun h=>by cases h⟩
 ·cases h
end
end Am
end
