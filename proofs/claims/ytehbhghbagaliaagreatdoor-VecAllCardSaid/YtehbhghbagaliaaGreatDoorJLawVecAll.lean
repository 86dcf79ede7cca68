/- The law VecAll: vectors: what stands where, sums, products. -/
import Derived.Test.YtehbhghbagaliaaGreatDoorJAtLaw
import Derived.Test.YtehbhghbagaliaaGreatDoorJLawAt
import Derived.Test.YtehbhghbagaliaaGreatDoorJWalkT
import Derived.Test.YtehbhghbagaliaaGreatDoorJLitD
import Derived.Test.YtehbhghbagaliaaGreatDoorJCoefs
import Derived.Test.YtehbhghbagaliaaGreatDoorJVecE
import Derived.Test.YtehbhghbagaliaaGreatDoorJWalkH
import Derived.Deep.RegionHeld
set_option linter.unusedVariables false
set_option linter.unusedSimpArgs false
namespace Vic
open Go Go.RowKit
theorem RefIs.rowq {w w9:World}{v:Value}{q:Rat}{L b m k:Nat}{ng:Bool}{A B:Option Addr}{c e:Nat}{T:TypeId}(h:RefIs w v q L) (hr:Row w b T #[.bool ng,.slice A m c,.slice B k e]) (hO:Only b w w9):RefIs w9 v q L:=by
 obtain ⟨ng',n,d,⟨x,y,rfl,h1,h2,h3⟩,h4⟩:=h
 have hcs:=qrow_far ng (.slice A m c) (.slice B k e) (fun _ _ h=>by cases h) (fun _ _ h=>by cases h)
 exact ⟨ng',n,d,⟨x,y,rfl,Ints.rowfar h1 hr (hcs _) hO,Ints.rowfar h2 hr (hcs _) hO,h3⟩,h4⟩
theorem qput2 {T:TypeId}{w W:World}{b B:Nat}{u0 u1 u2:Value}(v0 v1 v2:Value) (hr:Row W b T #[u0,u1,u2]) (hB:Below B w W) (hb:B≤b) :
 ∃ w9,w9=((W.setCell ⟨b,0,none⟩ v0).setCell ⟨b,1,none⟩ v1).setCell ⟨b,2,none⟩ v2∧Row w9 b T #[v0,v1,v2]∧Below B w w9∧Only b W w9 ∧
   W.cell? ⟨b,0,none⟩=some u0∧W.cell? ⟨b,1,none⟩=some u1∧W.cell? ⟨b,2,none⟩=some u2 ∧
   W.frozen? ⟨b,0,none⟩=false∧W.frozen? ⟨b,1,none⟩=false∧W.frozen? ⟨b,2,none⟩=false:=by
 have hO:Only b W (((W.setCell ⟨b,0,none⟩ v0).setCell ⟨b,1,none⟩ v1).setCell ⟨b,2,none⟩ v2):=(((Only.refl _ _).setCell 0 _).setCell 1 _).setCell 2 _
 exact ⟨_,rfl,Row.set (Row.set (Row.set hr 0 v0) 1 v1) 2 v2,hB.trans (hO.below hb),hO,hr.cell 0,hr.cell 1,hr.cell 2,hr.free 0,hr.free 1,hr.free 2⟩
def RefVar (T:TypeId) (w:World) (b:Nat) (q:Rat) (L:Nat):Prop:=∃ ng A m c B k e,Row w b T #[.bool ng,.slice A m c,.slice B k e]∧RefIs w (.agg #[.bool ng,.slice A m c,.slice B k e]) q L
theorem RefVar.keep {T:TypeId}{w w':World}{b:Nat}{q:Rat}{L:Nat}(h:RefVar T w b q L) (hb:Below w.heap.size w w'):RefVar T w' b q L:=by
 obtain ⟨ng,A,m,c,B,k,e,h1,h2⟩:=h
 exact ⟨ng,A,m,c,B,k,e,h1.keep hb,h2.keep hb⟩
def sigA (n:Nat) (f:Nat→Rat):Rat:=match n with
 | 0=>0
 | n+1=>sigA n f+f n
theorem sigA_succ (n:Nat) (f:Nat→Rat):sigA (n+1) f=sigA n f+f n:=rfl
theorem sigA_congr {n:Nat}{f g:Nat→Rat}(h:∀ i,i<n→f i=g i):sigA n f=sigA n g:=by
 induction n with
 | zero=>rfl
 | succ n ih=>rw[sigA_succ,sigA_succ,ih fun i hi=>h i (by omega),h n (by omega)]
theorem sumTo_sigma (a b:PL) (n:Nat):sumTo a b n=sigA n fun k=>atOf a k*atOf b k:=by
 induction n with
 | zero=>rfl
 | succ n ih=>rw[sumTo,ih,sigA_succ]
theorem dotGo_fits {L:Nat}(hL:2≤L) {qs:PL}(hq:∀ p∈qs,Fits L p.2):∀ (ps:PL) (s:Rat) (n:Nat),(∀ p∈ps,Fits L p.2)→Fits n s→Fits (n+ps.length*(2*L+1)) (dotGo qs s ps)
 | [],s,n,_,hs=>by simpa [dotGo]using hs
 | p :: ps,s,n,hp,hs=>by
   have h1:Fits (L+L) (p.2*atOf qs p.1):=fits_mul (hp p List.mem_cons_self) (atOf_fits hL hq p.1)
   have h2:Fits (n+(2*L+1)) (s+p.2*atOf qs p.1):=(fits_add hs h1).mono (by omega)
   have h3:=dotGo_fits hL hq ps _ _ (fun x hx=>hp x (List.mem_cons_of_mem _ hx)) h2
   exact h3.mono (by rw[List.length_cons,Nat.add_mul];omega)
theorem dot_fits {L:Nat}(hL:2≤L) {ps qs:PL}(hp:∀ p∈ps,Fits L p.2) (hq:∀ p∈qs,Fits L p.2):Fits (2+ps.length*(2*L+1)) (dotV ps qs):=
 dotGo_fits hL hq ps 0 2 hp (fits_of (n:=0) (by omega) (by omega))
theorem parts_fits {cs:List VCoef}(h:CoefsOk cs) {ps:List (Int × Rat)}(hp:ps.Perm (partsOf cs)):∀ p∈ps,Fits 2000 p.2:=by
 intro p hm
 have h1:=hp.mem_iff.1 hm
 unfold partsOf at h1
 obtain ⟨x,hx,rfl⟩:=List.mem_map.1 (List.mem_filter.1 h1).1
 exact good_fits (h.2 x hx).2
theorem parts_len {cs:List VCoef}{ps:List (Int × Rat)}(hp:ps.Perm (partsOf cs)):ps.length≤cs.length:=by
 rw[hp.length_eq]
 unfold partsOf
 exact Nat.le_trans (List.length_filter_le _ _) (by simp)
theorem fracText_zero:fracText 0 = [48]:=by
 have:=(dec_small (u:=0) (by omega))
 unfold fracText
 simp[this]
def cnt (m:PL):Nat→Nat
 | 0=>0
 | n+1=>cnt m n+if atOf m n=0 then 0 else 1
theorem cnt_nil (n:Nat):cnt [] n=0:=by
 induction n with
 | zero=>rfl
 | succ n ih=>rw[cnt,ih,atOf_nil];rfl
theorem cnt_cons (p:Int × Rat) (m:PL) (hr:Rising (p :: m)) (h0:p.2≠0) (n:Nat):cnt (p :: m) n=cnt m n+(if 0≤p.1∧p.1<n then 1 else 0):=by
 induction n with
 | zero=>rw[cnt,cnt,if_neg (by omega)]
 | succ n ih=>
   rw[cnt,cnt,ih,atOf_cons]
   by_cases h:p.1=(n:Int)
   ·have hz:atOf m (n:Int)=0:=by rw[← h];exact atOf_low hr.low
    have a1:¬ (0≤p.1∧p.1<(n:Int)):=by omega
    have a2:0≤p.1∧p.1<((n+1:Nat):Int):=by omega
    rw[if_pos h,if_neg h0,hz,if_neg a1,if_pos a2];simp
   ·rw[if_neg h]
    by_cases h2:0≤p.1∧p.1<(n:Int)
    ·have a2:0≤p.1∧p.1<((n+1:Nat):Int):=by omega
     rw[if_pos h2,if_pos a2];omega
    ·have a2:¬ (0≤p.1∧p.1<((n+1:Nat):Int)):=by omega
     rw[if_neg h2,if_neg a2];omega
theorem cnt_all {m:PL}(hr:Rising m) {n:Nat}(h:∀ p∈m,p.2≠0∧0≤p.1∧p.1<n):cnt m n=m.length:=by
 induction m with
 | nil=>rw[cnt_nil];rfl
 | cons p m ih=>
   obtain ⟨h1,h2⟩:=h p List.mem_cons_self
   rw[cnt_cons p m hr h1,ih hr.tail fun q hq=>h q (List.mem_cons_of_mem _ hq),if_pos h2];rfl
theorem cnt_le (m:PL) (n:Nat):cnt m n≤n:=by
 induction n with
 | zero=>exact Nat.le_refl _
 | succ n ih=>rw[cnt];split<;>omega
theorem text_nought {q:Rat}(h:fracText q = [48]):q=0:=by
 unfold fracText at h
 by_cases hn:q.num<0
 ·rw[if_pos hn]at h;simp at h
 ·rw[if_neg hn]at h
  have h1:Lib.decDigits q.num.natAbs = [48]:=by
   rcases hd:Lib.decDigits q.num.natAbs with _|⟨c,r⟩
   ·exact absurd hd (dec_ne _)
   ·rw[hd]at h
    simp at h
    rw[h.1,h.2.1]
  have h2:q.num.natAbs=0:=dec_inj (h1.trans (dec_small (u:=0) (by omega)).symm)
  have h3:q.num=0:=Int.natAbs_eq_zero.1 h2
  exact Rat.num_eq_zero.1 h3
theorem parts_place {cs:List VCoef}(h:CoefsOk cs) {ps:PL}(hp:ps.Perm (partsOf cs)):∀ p∈ps,0≤p.1∧p.1<30:=by
 intro p hm
 have h1:=hp.mem_iff.1 hm
 unfold partsOf at h1
 obtain ⟨x,hx,rfl⟩:=List.mem_map.1 (List.mem_filter.1 h1).1
 exact (h.2 x hx).1
end Vic
namespace Go.Proofs.YtehbhghbagaliaaGreatDoor
open Go.RowKit Vic
set_option maxRecDepth 100000 in
set_option maxHeartbeats 4000000 in
theorem law_F2 (w:World) (ht:Tab w) (s:List UInt8) (hs:s.length≤1000):Calls Tryz.prog 7 #[.string ⟨s.toArray⟩] w (fun e w'=>∃ x l,e=.returned x∧FracPtr w' x (fracOf l)∧FracGood l∧fracText (fracOf l)=l∧l.length≤1000∧Below w.heap.size w w'):=by
 have CG:=Lib.hid (frac_Get w s (by omega) ht)
 unfold GotFrac at CG
 have CO:Hid (∀ W,Calls Tryz.prog 29 #[.int .i64 0] W (Gives (fun x w'=>FracPtr w' x ((0:Int):Rat)) W)):=Lib.hid fun W=>frac_Of W 0 (by omega) (by omega)
 have h48:FracGood [48]∧fracOf [48]=0:=⟨fg_zero,by
  have:=fracGood_text 0 (by decide +kernel) (by decide +kernel)
  rw[fracText_zero]at this
  exact this.2⟩
 go_enter Tryz.func7,Tryz.ntmps7
 go_wp2_with fail
 refine CG.out.mono ?_
 rintro e w1 (⟨hno,rfl,hb1⟩|⟨hg,x,rfl,hx,hf,hb1⟩)
 ·go_wp2_with fail
  refine (CO.out _).mono ?_
  rintro e w2 ⟨x,rfl,hx,hb2⟩
  go_wp2_with fail
  go_ret
  exact ⟨_,[48],rfl,by rw[h48.2];exact hx,h48.1,by rw[h48.2];exact fracText_zero,by simp,below_seq hb1 hb2⟩
 ·obtain ⟨b,hxb⟩:∃ b,x=.pointer b:=by obtain ⟨b,_,_,h,_⟩:=hx;exact ⟨_,h⟩
  subst hxb
  have HX:=Lib.hid hx
  clear hx
  go_wp2_with fail
  go_ret
  exact ⟨_,s,rfl,HX.out,hg,(fracGood_iff _ hg).symm,hs,hb1⟩
abbrev vva18_0:Oper:={ dst:=some 79,op:=Go.Op.load 35 (Go.Operand.tmp 25),type:=35,pos:="law.go:336",after:=#[],guard:=none }
abbrev vva18_1:Oper:={ dst:=some 80,op:=Go.Op.load 35 (Go.Operand.tmp 19),type:=35,pos:="law.go:336",after:=#[],guard:=none }
abbrev vva18_2:Oper:={ dst:=some 81,op:=Go.Op.load 35 (Go.Operand.tmp 26),type:=35,pos:="law.go:336",after:=#[],guard:=none }
abbrev vva18_3:Oper:={ dst:=some 82,op:=Go.Op.call { callee:=Go.Callee.value (Go.Operand.func 15),args:=#[Go.Operand.tmp 80,Go.Operand.tmp 81],argTypes:=#[35,35] },type:=35,pos:="law.go:336",after:=#[{ on:=1,ground:=Go.Ground.data },{ on:=2,ground:=Go.Ground.data }],guard:=none }
abbrev vva18_4:Oper:={ dst:=some 83,op:=Go.Op.call { callee:=Go.Callee.value (Go.Operand.func 14),args:=#[Go.Operand.tmp 79,Go.Operand.tmp 82],argTypes:=#[35,35] },type:=35,pos:="law.go:336",after:=#[{ on:=0,ground:=Go.Ground.data },{ on:=3,ground:=Go.Ground.data },{ on:=3,ground:=Go.Ground.chain }],guard:=none }
abbrev vva18_5:Oper:={ dst:=some 27,op:=Go.Op.alloc 35,type:=0,pos:="law.go:336",after:=#[],guard:=none }
abbrev vva18_6:Oper:={ dst:=none,op:=Go.Op.store 35 (Go.Operand.tmp 27) (Go.Operand.tmp 83),type:=0,pos:="law.go:336",after:=#[{ on:=5,ground:=Go.Ground.data },{ on:=4,ground:=Go.Ground.data },{ on:=4,ground:=Go.Ground.chain },{ on:=0,ground:=Go.Ground.phase },{ on:=1,ground:=Go.Ground.phase },{ on:=2,ground:=Go.Ground.phase },{ on:=3,ground:=Go.Ground.phase },{ on:=4,ground:=Go.Ground.phase },{ on:=5,ground:=Go.Ground.phase }],guard:=none }
abbrev vva19_0:Oper:={ dst:=some 84,op:=Go.Op.move (Go.Operand.tmp 14),type:=27,pos:="law.go:337",after:=#[],guard:=none }
abbrev vva19_1:Oper:={ dst:=some 85,op:=Go.Op.move (Go.Operand.tmp 24),type:=3,pos:="law.go:337",after:=#[],guard:=none }
abbrev vva19_2:Oper:={ dst:=some 86,op:=Go.Op.call { callee:=Go.Callee.value (Go.Operand.func 16),args:=#[Go.Operand.tmp 84,Go.Operand.tmp 85],argTypes:=#[27,3] },type:=30,pos:="law.go:337",after:=#[{ on:=0,ground:=Go.Ground.data },{ on:=1,ground:=Go.Ground.data }],guard:=none }
abbrev vva19_3:Oper:={ dst:=some 87,op:=Go.Op.call { callee:=Go.Callee.value (Go.Operand.func 10),args:=#[Go.Operand.tmp 86],argTypes:=#[30] },type:=9,pos:="law.go:337",after:=#[{ on:=2,ground:=Go.Ground.data },{ on:=2,ground:=Go.Ground.chain }],guard:=none }
abbrev vva19_4:Oper:={ dst:=some 88,op:=Go.Op.load 35 (Go.Operand.tmp 25),type:=35,pos:="law.go:337",after:=#[],guard:=none }
abbrev vva19_5:Oper:={ dst:=some 89,op:=Go.Op.call { callee:=Go.Callee.value (Go.Operand.func 17),args:=#[Go.Operand.tmp 88],argTypes:=#[35] },type:=9,pos:="law.go:337",after:=#[{ on:=4,ground:=Go.Ground.data },{ on:=3,ground:=Go.Ground.chain }],guard:=none }
abbrev vva19_6:Oper:={ dst:=some 90,op:=Go.Op.binOp Go.BinOp.neq 9 (Go.Operand.tmp 87) (Go.Operand.tmp 89) 9,type:=4,pos:="law.go:337",after:=#[{ on:=3,ground:=Go.Ground.data },{ on:=5,ground:=Go.Ground.data }],guard:=none }
abbrev vva19_7:Oper:={ dst:=some 91,op:=Go.Op.move (Go.Operand.tmp 90),type:=4,pos:="law.go:337",after:=#[{ on:=6,ground:=Go.Ground.data },{ on:=5,ground:=Go.Ground.chain }],guard:=none }
abbrev vva19_8:Oper:={ dst:=some 92,op:=Go.Op.move (Go.Operand.tmp 21),type:=27,pos:="law.go:337",after:=#[{ on:=7,ground:=Go.Ground.guard }],guard:=some (7,false) }
abbrev vva19_9:Oper:={ dst:=some 93,op:=Go.Op.move (Go.Operand.tmp 24),type:=3,pos:="law.go:337",after:=#[{ on:=7,ground:=Go.Ground.guard }],guard:=some (7,false) }
abbrev vva19_10:Oper:={ dst:=some 94,op:=Go.Op.call { callee:=Go.Callee.value (Go.Operand.func 16),args:=#[Go.Operand.tmp 92,Go.Operand.tmp 93],argTypes:=#[27,3] },type:=30,pos:="law.go:337",after:=#[{ on:=8,ground:=Go.Ground.data },{ on:=9,ground:=Go.Ground.data },{ on:=7,ground:=Go.Ground.chain },{ on:=7,ground:=Go.Ground.guard }],guard:=some (7,false) }
abbrev vva19_11:Oper:={ dst:=some 95,op:=Go.Op.call { callee:=Go.Callee.value (Go.Operand.func 10),args:=#[Go.Operand.tmp 94],argTypes:=#[30] },type:=9,pos:="law.go:337",after:=#[{ on:=10,ground:=Go.Ground.data },{ on:=10,ground:=Go.Ground.chain },{ on:=7,ground:=Go.Ground.guard }],guard:=some (7,false) }
abbrev vva19_12:Oper:={ dst:=some 96,op:=Go.Op.load 35 (Go.Operand.tmp 27),type:=35,pos:="law.go:337",after:=#[{ on:=7,ground:=Go.Ground.guard }],guard:=some (7,false) }
abbrev vva19_13:Oper:={ dst:=some 97,op:=Go.Op.call { callee:=Go.Callee.value (Go.Operand.func 17),args:=#[Go.Operand.tmp 96],argTypes:=#[35] },type:=9,pos:="law.go:337",after:=#[{ on:=12,ground:=Go.Ground.data },{ on:=11,ground:=Go.Ground.chain },{ on:=7,ground:=Go.Ground.guard }],guard:=some (7,false) }
abbrev vva19_14:Oper:={ dst:=some 98,op:=Go.Op.binOp Go.BinOp.neq 9 (Go.Operand.tmp 95) (Go.Operand.tmp 97) 9,type:=4,pos:="law.go:337",after:=#[{ on:=11,ground:=Go.Ground.data },{ on:=13,ground:=Go.Ground.data },{ on:=7,ground:=Go.Ground.guard }],guard:=some (7,false) }
abbrev vva19_15:Oper:={ dst:=some 99,op:=Go.Op.pick (Go.Operand.tmp 91) (Go.Operand.const (Go.Value.bool true)) (Go.Operand.tmp 98),type:=4,pos:="law.go:337",after:=#[{ on:=7,ground:=Go.Ground.data },{ on:=14,ground:=Go.Ground.data }],guard:=none }
abbrev vva21_0:Oper:={ dst:=some 100,op:=Go.Op.load 35 (Go.Operand.tmp 22),type:=35,pos:="law.go:340",after:=#[],guard:=none }
abbrev vva21_1:Oper:={ dst:=some 101,op:=Go.Op.load 35 (Go.Operand.tmp 25),type:=35,pos:="law.go:340",after:=#[],guard:=none }
abbrev vva21_2:Oper:={ dst:=some 102,op:=Go.Op.load 35 (Go.Operand.tmp 26),type:=35,pos:="law.go:340",after:=#[],guard:=none }
abbrev vva21_3:Oper:={ dst:=some 103,op:=Go.Op.call { callee:=Go.Callee.value (Go.Operand.func 15),args:=#[Go.Operand.tmp 101,Go.Operand.tmp 102],argTypes:=#[35,35] },type:=35,pos:="law.go:340",after:=#[{ on:=1,ground:=Go.Ground.data },{ on:=2,ground:=Go.Ground.data }],guard:=none }
abbrev vva21_4:Oper:={ dst:=some 104,op:=Go.Op.call { callee:=Go.Callee.value (Go.Operand.func 14),args:=#[Go.Operand.tmp 100,Go.Operand.tmp 103],argTypes:=#[35,35] },type:=35,pos:="law.go:340",after:=#[{ on:=0,ground:=Go.Ground.data },{ on:=3,ground:=Go.Ground.data },{ on:=3,ground:=Go.Ground.chain }],guard:=none }
abbrev vva21_5:Oper:={ dst:=none,op:=Go.Op.store 35 (Go.Operand.tmp 22) (Go.Operand.tmp 104),type:=0,pos:="law.go:340",after:=#[{ on:=4,ground:=Go.Ground.data },{ on:=4,ground:=Go.Ground.chain },{ on:=0,ground:=Go.Ground.phase },{ on:=1,ground:=Go.Ground.phase },{ on:=2,ground:=Go.Ground.phase },{ on:=3,ground:=Go.Ground.phase },{ on:=4,ground:=Go.Ground.phase }],guard:=none }
abbrev vva28_0:Oper:={ dst:=some 117,op:=Go.Op.move (Go.Operand.tmp 29),type:=3,pos:="law.go:347",after:=#[],guard:=none }
abbrev vva28_1:Oper:={ dst:=some 118,op:=Go.Op.binOp Go.BinOp.gtr 3 (Go.Operand.tmp 117) (Go.Operand.const (Go.Value.int Go.IntKind.i64 0)) 3,type:=4,pos:="law.go:347",after:=#[{ on:=0,ground:=Go.Ground.data }],guard:=none }
abbrev vva28_2:Oper:={ dst:=some 119,op:=Go.Op.move (Go.Operand.tmp 118),type:=4,pos:="law.go:347",after:=#[{ on:=1,ground:=Go.Ground.data }],guard:=none }
abbrev vva28_3:Oper:={ dst:=some 120,op:=Go.Op.move (Go.Operand.tmp 28),type:=25,pos:="law.go:347",after:=#[{ on:=2,ground:=Go.Ground.guard }],guard:=some (2,true) }
abbrev vva28_4:Oper:={ dst:=some 121,op:=Go.Op.move (Go.Operand.tmp 29),type:=3,pos:="law.go:347",after:=#[{ on:=2,ground:=Go.Ground.guard }],guard:=some (2,true) }
abbrev vva28_5:Oper:={ dst:=some 122,op:=Go.Op.binOp Go.BinOp.sub 3 (Go.Operand.tmp 121) (Go.Operand.const (Go.Value.int Go.IntKind.i64 1)) 3,type:=3,pos:="law.go:347",after:=#[{ on:=4,ground:=Go.Ground.data },{ on:=2,ground:=Go.Ground.guard }],guard:=some (2,true) }
abbrev vva28_6:Oper:={ dst:=some 123,op:=Go.Op.indexAddr 25 (Go.Operand.tmp 120) (Go.Operand.tmp 122),type:=0,pos:="law.go:347",after:=#[{ on:=3,ground:=Go.Ground.data },{ on:=5,ground:=Go.Ground.data },{ on:=2,ground:=Go.Ground.guard }],guard:=some (2,true) }
abbrev vva28_7:Oper:={ dst:=some 124,op:=Go.Op.fieldAddr 46 (Go.Operand.tmp 123) 0,type:=0,pos:="law.go:347",after:=#[{ on:=6,ground:=Go.Ground.data },{ on:=2,ground:=Go.Ground.guard }],guard:=some (2,true) }
abbrev vva28_8:Oper:={ dst:=some 125,op:=Go.Op.load 3 (Go.Operand.tmp 124),type:=3,pos:="law.go:347",after:=#[{ on:=7,ground:=Go.Ground.data },{ on:=2,ground:=Go.Ground.guard }],guard:=some (2,true) }
abbrev vva28_9:Oper:={ dst:=some 126,op:=Go.Op.move (Go.Operand.tmp 28),type:=25,pos:="law.go:347",after:=#[{ on:=2,ground:=Go.Ground.guard }],guard:=some (2,true) }
abbrev vva28_10:Oper:={ dst:=some 127,op:=Go.Op.move (Go.Operand.tmp 29),type:=3,pos:="law.go:347",after:=#[{ on:=2,ground:=Go.Ground.guard }],guard:=some (2,true) }
abbrev vva28_11:Oper:={ dst:=some 128,op:=Go.Op.indexAddr 25 (Go.Operand.tmp 126) (Go.Operand.tmp 127),type:=0,pos:="law.go:347",after:=#[{ on:=9,ground:=Go.Ground.data },{ on:=10,ground:=Go.Ground.data },{ on:=2,ground:=Go.Ground.guard }],guard:=some (2,true) }
abbrev vva28_12:Oper:={ dst:=some 129,op:=Go.Op.fieldAddr 46 (Go.Operand.tmp 128) 0,type:=0,pos:="law.go:347",after:=#[{ on:=11,ground:=Go.Ground.data },{ on:=2,ground:=Go.Ground.guard }],guard:=some (2,true) }
abbrev vva28_13:Oper:={ dst:=some 130,op:=Go.Op.load 3 (Go.Operand.tmp 129),type:=3,pos:="law.go:347",after:=#[{ on:=12,ground:=Go.Ground.data },{ on:=2,ground:=Go.Ground.guard }],guard:=some (2,true) }
abbrev vva28_14:Oper:={ dst:=some 131,op:=Go.Op.binOp Go.BinOp.geq 3 (Go.Operand.tmp 125) (Go.Operand.tmp 130) 3,type:=4,pos:="law.go:347",after:=#[{ on:=8,ground:=Go.Ground.data },{ on:=13,ground:=Go.Ground.data },{ on:=2,ground:=Go.Ground.guard }],guard:=some (2,true) }
abbrev vva28_15:Oper:={ dst:=some 132,op:=Go.Op.pick (Go.Operand.tmp 119) (Go.Operand.tmp 131) (Go.Operand.const (Go.Value.bool false)),type:=4,pos:="law.go:347",after:=#[{ on:=2,ground:=Go.Ground.data },{ on:=14,ground:=Go.Ground.data }],guard:=none }
abbrev vva28_16:Oper:={ dst:=some 133,op:=Go.Op.move (Go.Operand.tmp 132),type:=4,pos:="law.go:347",after:=#[{ on:=15,ground:=Go.Ground.data },{ on:=2,ground:=Go.Ground.chain }],guard:=none }
abbrev vva28_17:Oper:={ dst:=some 134,op:=Go.Op.move (Go.Operand.tmp 28),type:=25,pos:="law.go:347",after:=#[{ on:=16,ground:=Go.Ground.guard }],guard:=some (16,false) }
abbrev vva28_18:Oper:={ dst:=some 135,op:=Go.Op.move (Go.Operand.tmp 29),type:=3,pos:="law.go:347",after:=#[{ on:=16,ground:=Go.Ground.guard }],guard:=some (16,false) }
abbrev vva28_19:Oper:={ dst:=some 136,op:=Go.Op.indexAddr 25 (Go.Operand.tmp 134) (Go.Operand.tmp 135),type:=0,pos:="law.go:347",after:=#[{ on:=17,ground:=Go.Ground.data },{ on:=18,ground:=Go.Ground.data },{ on:=16,ground:=Go.Ground.guard }],guard:=some (16,false) }
abbrev vva28_20:Oper:={ dst:=some 137,op:=Go.Op.fieldAddr 46 (Go.Operand.tmp 136) 1,type:=0,pos:="law.go:347",after:=#[{ on:=19,ground:=Go.Ground.data },{ on:=16,ground:=Go.Ground.guard }],guard:=some (16,false) }
abbrev vva28_21:Oper:={ dst:=some 138,op:=Go.Op.load 9 (Go.Operand.tmp 137),type:=9,pos:="law.go:347",after:=#[{ on:=20,ground:=Go.Ground.data },{ on:=16,ground:=Go.Ground.guard }],guard:=some (16,false) }
abbrev vva28_22:Oper:={ dst:=some 139,op:=Go.Op.binOp Go.BinOp.eql 9 (Go.Operand.tmp 138) (Go.Operand.const (Go.Value.string { data:=#[48] })) 9,type:=4,pos:="law.go:347",after:=#[{ on:=21,ground:=Go.Ground.data },{ on:=16,ground:=Go.Ground.guard }],guard:=some (16,false) }
abbrev vva28_23:Oper:={ dst:=some 140,op:=Go.Op.pick (Go.Operand.tmp 133) (Go.Operand.const (Go.Value.bool true)) (Go.Operand.tmp 139),type:=4,pos:="law.go:347",after:=#[{ on:=16,ground:=Go.Ground.data },{ on:=22,ground:=Go.Ground.data }],guard:=none }
abbrev vva28_24:Oper:={ dst:=some 141,op:=Go.Op.move (Go.Operand.tmp 140),type:=4,pos:="law.go:347",after:=#[{ on:=23,ground:=Go.Ground.data },{ on:=16,ground:=Go.Ground.chain }],guard:=none }
abbrev vva28_25:Oper:={ dst:=some 142,op:=Go.Op.move (Go.Operand.tmp 21),type:=27,pos:="law.go:347",after:=#[{ on:=24,ground:=Go.Ground.guard }],guard:=some (24,false) }
abbrev vva28_26:Oper:={ dst:=some 143,op:=Go.Op.move (Go.Operand.tmp 28),type:=25,pos:="law.go:347",after:=#[{ on:=24,ground:=Go.Ground.guard }],guard:=some (24,false) }
abbrev vva28_27:Oper:={ dst:=some 144,op:=Go.Op.move (Go.Operand.tmp 29),type:=3,pos:="law.go:347",after:=#[{ on:=24,ground:=Go.Ground.guard }],guard:=some (24,false) }
abbrev vva28_28:Oper:={ dst:=some 145,op:=Go.Op.indexAddr 25 (Go.Operand.tmp 143) (Go.Operand.tmp 144),type:=0,pos:="law.go:347",after:=#[{ on:=26,ground:=Go.Ground.data },{ on:=27,ground:=Go.Ground.data },{ on:=24,ground:=Go.Ground.guard }],guard:=some (24,false) }
abbrev vva28_29:Oper:={ dst:=some 146,op:=Go.Op.fieldAddr 46 (Go.Operand.tmp 145) 0,type:=0,pos:="law.go:347",after:=#[{ on:=28,ground:=Go.Ground.data },{ on:=24,ground:=Go.Ground.guard }],guard:=some (24,false) }
abbrev vva28_30:Oper:={ dst:=some 147,op:=Go.Op.load 3 (Go.Operand.tmp 146),type:=3,pos:="law.go:347",after:=#[{ on:=29,ground:=Go.Ground.data },{ on:=24,ground:=Go.Ground.guard }],guard:=some (24,false) }
abbrev vva28_31:Oper:={ dst:=some 148,op:=Go.Op.call { callee:=Go.Callee.value (Go.Operand.func 16),args:=#[Go.Operand.tmp 142,Go.Operand.tmp 147],argTypes:=#[27,3] },type:=30,pos:="law.go:347",after:=#[{ on:=25,ground:=Go.Ground.data },{ on:=30,ground:=Go.Ground.data },{ on:=24,ground:=Go.Ground.chain },{ on:=24,ground:=Go.Ground.guard }],guard:=some (24,false) }
abbrev vva28_32:Oper:={ dst:=some 149,op:=Go.Op.call { callee:=Go.Callee.value (Go.Operand.func 10),args:=#[Go.Operand.tmp 148],argTypes:=#[30] },type:=9,pos:="law.go:347",after:=#[{ on:=31,ground:=Go.Ground.data },{ on:=31,ground:=Go.Ground.chain },{ on:=24,ground:=Go.Ground.guard }],guard:=some (24,false) }
abbrev vva28_33:Oper:={ dst:=some 150,op:=Go.Op.move (Go.Operand.tmp 28),type:=25,pos:="law.go:347",after:=#[{ on:=24,ground:=Go.Ground.guard }],guard:=some (24,false) }
abbrev vva28_34:Oper:={ dst:=some 151,op:=Go.Op.move (Go.Operand.tmp 29),type:=3,pos:="law.go:347",after:=#[{ on:=24,ground:=Go.Ground.guard }],guard:=some (24,false) }
abbrev vva28_35:Oper:={ dst:=some 152,op:=Go.Op.indexAddr 25 (Go.Operand.tmp 150) (Go.Operand.tmp 151),type:=0,pos:="law.go:347",after:=#[{ on:=33,ground:=Go.Ground.data },{ on:=34,ground:=Go.Ground.data },{ on:=24,ground:=Go.Ground.guard }],guard:=some (24,false) }
abbrev vva28_36:Oper:={ dst:=some 153,op:=Go.Op.fieldAddr 46 (Go.Operand.tmp 152) 1,type:=0,pos:="law.go:347",after:=#[{ on:=35,ground:=Go.Ground.data },{ on:=24,ground:=Go.Ground.guard }],guard:=some (24,false) }
abbrev vva28_37:Oper:={ dst:=some 154,op:=Go.Op.load 9 (Go.Operand.tmp 153),type:=9,pos:="law.go:347",after:=#[{ on:=36,ground:=Go.Ground.data },{ on:=24,ground:=Go.Ground.guard }],guard:=some (24,false) }
abbrev vva28_38:Oper:={ dst:=some 155,op:=Go.Op.binOp Go.BinOp.neq 9 (Go.Operand.tmp 149) (Go.Operand.tmp 154) 9,type:=4,pos:="law.go:347",after:=#[{ on:=32,ground:=Go.Ground.data },{ on:=37,ground:=Go.Ground.data },{ on:=24,ground:=Go.Ground.guard }],guard:=some (24,false) }
abbrev vva28_39:Oper:={ dst:=some 156,op:=Go.Op.pick (Go.Operand.tmp 141) (Go.Operand.const (Go.Value.bool true)) (Go.Operand.tmp 155),type:=4,pos:="law.go:347",after:=#[{ on:=24,ground:=Go.Ground.data },{ on:=38,ground:=Go.Ground.data }],guard:=none }
abbrev vva31_0:Oper:={ dst:=some 158,op:=Go.Op.move (Go.Operand.tmp 14),type:=27,pos:="law.go:351",after:=#[],guard:=none }
abbrev vva31_1:Oper:={ dst:=some 159,op:=Go.Op.move (Go.Operand.tmp 16),type:=27,pos:="law.go:351",after:=#[],guard:=none }
abbrev vva31_2:Oper:={ dst:=some 160,op:=Go.Op.call { callee:=Go.Callee.value (Go.Operand.func 20),args:=#[Go.Operand.tmp 158,Go.Operand.tmp 159],argTypes:=#[27,27] },type:=30,pos:="law.go:351",after:=#[{ on:=0,ground:=Go.Ground.data },{ on:=1,ground:=Go.Ground.data }],guard:=none }
abbrev vva31_3:Oper:={ dst:=some 161,op:=Go.Op.call { callee:=Go.Callee.value (Go.Operand.func 10),args:=#[Go.Operand.tmp 160],argTypes:=#[30] },type:=9,pos:="law.go:351",after:=#[{ on:=2,ground:=Go.Ground.data },{ on:=2,ground:=Go.Ground.chain }],guard:=none }
abbrev vva31_4:Oper:={ dst:=some 162,op:=Go.Op.load 35 (Go.Operand.tmp 22),type:=35,pos:="law.go:351",after:=#[],guard:=none }
abbrev vva31_5:Oper:={ dst:=some 163,op:=Go.Op.call { callee:=Go.Callee.value (Go.Operand.func 17),args:=#[Go.Operand.tmp 162],argTypes:=#[35] },type:=9,pos:="law.go:351",after:=#[{ on:=4,ground:=Go.Ground.data },{ on:=3,ground:=Go.Ground.chain }],guard:=none }
abbrev vva31_6:Oper:={ dst:=some 164,op:=Go.Op.binOp Go.BinOp.eql 9 (Go.Operand.tmp 161) (Go.Operand.tmp 163) 9,type:=4,pos:="law.go:351",after:=#[{ on:=3,ground:=Go.Ground.data },{ on:=5,ground:=Go.Ground.data }],guard:=none }
abbrev vva31_7:Oper:={ dst:=some 165,op:=Go.Op.move (Go.Operand.tmp 164),type:=4,pos:="law.go:351",after:=#[{ on:=6,ground:=Go.Ground.data },{ on:=5,ground:=Go.Ground.chain }],guard:=none }
abbrev vva31_8:Oper:={ dst:=some 166,op:=Go.Op.move (Go.Operand.tmp 16),type:=27,pos:="law.go:351",after:=#[{ on:=7,ground:=Go.Ground.guard }],guard:=some (7,true) }
abbrev vva31_9:Oper:={ dst:=some 167,op:=Go.Op.move (Go.Operand.tmp 14),type:=27,pos:="law.go:351",after:=#[{ on:=7,ground:=Go.Ground.guard }],guard:=some (7,true) }
abbrev vva31_10:Oper:={ dst:=some 168,op:=Go.Op.call { callee:=Go.Callee.value (Go.Operand.func 20),args:=#[Go.Operand.tmp 166,Go.Operand.tmp 167],argTypes:=#[27,27] },type:=30,pos:="law.go:351",after:=#[{ on:=8,ground:=Go.Ground.data },{ on:=9,ground:=Go.Ground.data },{ on:=7,ground:=Go.Ground.chain },{ on:=7,ground:=Go.Ground.guard }],guard:=some (7,true) }
abbrev vva31_11:Oper:={ dst:=some 169,op:=Go.Op.call { callee:=Go.Callee.value (Go.Operand.func 10),args:=#[Go.Operand.tmp 168],argTypes:=#[30] },type:=9,pos:="law.go:351",after:=#[{ on:=10,ground:=Go.Ground.data },{ on:=10,ground:=Go.Ground.chain },{ on:=7,ground:=Go.Ground.guard }],guard:=some (7,true) }
abbrev vva31_12:Oper:={ dst:=some 170,op:=Go.Op.load 35 (Go.Operand.tmp 22),type:=35,pos:="law.go:351",after:=#[{ on:=7,ground:=Go.Ground.guard }],guard:=some (7,true) }
abbrev vva31_13:Oper:={ dst:=some 171,op:=Go.Op.call { callee:=Go.Callee.value (Go.Operand.func 17),args:=#[Go.Operand.tmp 170],argTypes:=#[35] },type:=9,pos:="law.go:351",after:=#[{ on:=12,ground:=Go.Ground.data },{ on:=11,ground:=Go.Ground.chain },{ on:=7,ground:=Go.Ground.guard }],guard:=some (7,true) }
abbrev vva31_14:Oper:={ dst:=some 172,op:=Go.Op.binOp Go.BinOp.eql 9 (Go.Operand.tmp 169) (Go.Operand.tmp 171) 9,type:=4,pos:="law.go:351",after:=#[{ on:=11,ground:=Go.Ground.data },{ on:=13,ground:=Go.Ground.data },{ on:=7,ground:=Go.Ground.guard }],guard:=some (7,true) }
abbrev vva31_15:Oper:={ dst:=some 173,op:=Go.Op.pick (Go.Operand.tmp 165) (Go.Operand.tmp 172) (Go.Operand.const (Go.Value.bool false)),type:=4,pos:="law.go:351",after:=#[{ on:=7,ground:=Go.Ground.data },{ on:=14,ground:=Go.Ground.data }],guard:=none }
abbrev vva31_16:Oper:={ dst:=some 174,op:=Go.Op.move (Go.Operand.tmp 173),type:=4,pos:="law.go:351",after:=#[{ on:=15,ground:=Go.Ground.data },{ on:=13,ground:=Go.Ground.chain }],guard:=none }
abbrev vva31_17:Oper:={ dst:=some 175,op:=Go.Op.move (Go.Operand.tmp 28),type:=25,pos:="law.go:351",after:=#[{ on:=16,ground:=Go.Ground.guard }],guard:=some (16,true) }
abbrev vva31_18:Oper:={ dst:=some 176,op:=Go.Op.call { callee:=Go.Callee.builtin Go.Builtin.len,args:=#[Go.Operand.tmp 175],argTypes:=#[25] },type:=3,pos:="law.go:351",after:=#[{ on:=17,ground:=Go.Ground.data },{ on:=16,ground:=Go.Ground.guard }],guard:=some (16,true) }
abbrev vva31_19:Oper:={ dst:=some 177,op:=Go.Op.move (Go.Operand.tmp 23),type:=3,pos:="law.go:351",after:=#[{ on:=16,ground:=Go.Ground.guard }],guard:=some (16,true) }
abbrev vva31_20:Oper:={ dst:=some 178,op:=Go.Op.binOp Go.BinOp.eql 3 (Go.Operand.tmp 176) (Go.Operand.tmp 177) 3,type:=4,pos:="law.go:351",after:=#[{ on:=18,ground:=Go.Ground.data },{ on:=19,ground:=Go.Ground.data },{ on:=16,ground:=Go.Ground.guard }],guard:=some (16,true) }
abbrev vva31_21:Oper:={ dst:=some 179,op:=Go.Op.pick (Go.Operand.tmp 174) (Go.Operand.tmp 178) (Go.Operand.const (Go.Value.bool false)),type:=4,pos:="law.go:351",after:=#[{ on:=16,ground:=Go.Ground.data },{ on:=20,ground:=Go.Ground.data }],guard:=none }
abbrev vva31_22:Oper:={ dst:=some 180,op:=Go.Op.move (Go.Operand.tmp 179),type:=4,pos:="law.go:351",after:=#[{ on:=21,ground:=Go.Ground.data },{ on:=16,ground:=Go.Ground.chain }],guard:=none }
abbrev vva31_23:Oper:={ dst:=some 181,op:=Go.Op.move (Go.Operand.tmp 21),type:=27,pos:="law.go:351",after:=#[{ on:=22,ground:=Go.Ground.guard }],guard:=some (22,true) }
abbrev vva31_24:Oper:={ dst:=some 182,op:=Go.Op.call { callee:=Go.Callee.value (Go.Operand.func 21),args:=#[Go.Operand.tmp 181],argTypes:=#[27] },type:=3,pos:="law.go:351",after:=#[{ on:=23,ground:=Go.Ground.data },{ on:=22,ground:=Go.Ground.chain },{ on:=22,ground:=Go.Ground.guard }],guard:=some (22,true) }
abbrev vva31_25:Oper:={ dst:=some 183,op:=Go.Op.move (Go.Operand.tmp 23),type:=3,pos:="law.go:351",after:=#[{ on:=22,ground:=Go.Ground.guard }],guard:=some (22,true) }
abbrev vva31_26:Oper:={ dst:=some 184,op:=Go.Op.binOp Go.BinOp.eql 3 (Go.Operand.tmp 182) (Go.Operand.tmp 183) 3,type:=4,pos:="law.go:351",after:=#[{ on:=24,ground:=Go.Ground.data },{ on:=25,ground:=Go.Ground.data },{ on:=22,ground:=Go.Ground.guard }],guard:=some (22,true) }
abbrev vva31_27:Oper:={ dst:=some 185,op:=Go.Op.pick (Go.Operand.tmp 180) (Go.Operand.tmp 184) (Go.Operand.const (Go.Value.bool false)),type:=4,pos:="law.go:351",after:=#[{ on:=22,ground:=Go.Ground.data },{ on:=26,ground:=Go.Ground.data }],guard:=none }
abbrev vva31_28:Oper:={ dst:=some 10,op:=Go.Op.assign (Go.Operand.tmp 185),type:=4,pos:="law.go:351",after:=#[{ on:=27,ground:=Go.Ground.data },{ on:=24,ground:=Go.Ground.chain },{ on:=0,ground:=Go.Ground.phase },{ on:=1,ground:=Go.Ground.phase },{ on:=2,ground:=Go.Ground.phase },{ on:=3,ground:=Go.Ground.phase },{ on:=4,ground:=Go.Ground.phase },{ on:=5,ground:=Go.Ground.phase },{ on:=6,ground:=Go.Ground.phase },{ on:=7,ground:=Go.Ground.phase },{ on:=8,ground:=Go.Ground.phase },{ on:=9,ground:=Go.Ground.phase },{ on:=10,ground:=Go.Ground.phase },{ on:=11,ground:=Go.Ground.phase },{ on:=12,ground:=Go.Ground.phase },{ on:=13,ground:=Go.Ground.phase },{ on:=14,ground:=Go.Ground.phase },{ on:=15,ground:=Go.Ground.phase },{ on:=16,ground:=Go.Ground.phase },{ on:=17,ground:=Go.Ground.phase },{ on:=18,ground:=Go.Ground.phase },{ on:=19,ground:=Go.Ground.phase },{ on:=20,ground:=Go.Ground.phase },{ on:=21,ground:=Go.Ground.phase },{ on:=22,ground:=Go.Ground.phase },{ on:=23,ground:=Go.Ground.phase },{ on:=24,ground:=Go.Ground.phase },{ on:=25,ground:=Go.Ground.phase },{ on:=26,ground:=Go.Ground.phase },{ on:=27,ground:=Go.Ground.phase }],guard:=none }
set_option maxRecDepth 100000 in
set_option maxHeartbeats 16000000 in
theorem law_VecAll (w:World) (ht:Tab w) (va vb vc vd:Value) (l:List UInt8) (xs ys:List Int) (us vs:List (List UInt8)) (ha:IntsArg w va xs) (hb:IntsArg w vb ys) (hc:StrsArg w vc us) (hd:StrsArg w vd vs)
 (hxs:xs.length≤9223372036854775807) (hys:ys.length≤9223372036854775807) (hus:us.length≤9223372036854775807) (hvs:vs.length≤9223372036854775807)
 (hxb:∀ x∈xs,-9223372036854775808≤x∧x≤9223372036854775807) (hyb:∀ x∈ys,-9223372036854775808≤x∧x≤9223372036854775807) (hub:∀ y∈us,y.length≤9223372036854775807) (hvb:∀ y∈vs,y.length≤9223372036854775807) (hl:l.length≤9223372036854775807) :
 Calls Tryz.prog 3 #[va,vb,vc,vd,.string ⟨l.toArray⟩] w (Keeps (.bool true) w):=by
 have CB:=Lib.hid (law_begun w ht)
 have HT:=Lib.hid ht
 have CC1:Hid (∀ W,Below w.heap.size w W→Calls Tryz.prog 5 #[va,vc] W (CoefsMade 46 W)):=Lib.hid fun W h=>law_coefs W va vc xs us (ha.keep h) (hc.keep h) hxs hus hxb hub
 have CC2:Hid (∀ W,Below w.heap.size w W→Calls Tryz.prog 5 #[vb,vd] W (CoefsMade 46 W)):=Lib.hid fun W h=>law_coefs W vb vd ys vs (hb.keep h) (hd.keep h) hys hvs hyb hvb
 have CN:Hid (∀ W sv B cs,Below w.heap.size w W→OwnCoefs W B 46 sv cs→cs.length≤10→(∀ x∈cs,x.2.length≤20000)→CoefsOk cs→Calls Tryz.prog 6 #[sv] W (fun e w'=>∃ b ps,e=.returned (.tuple #[.pointer (some ⟨b,0,none⟩),.bool true])∧VecPtr w' (.pointer (some ⟨b,0,none⟩)) ps∧ps.length≤10∧ps.Perm (partsOf cs)∧Rising ps∧(∀ p∈ps,Fits 2000 p.2)∧Below W.heap.size W w')):=Lib.hid fun W sv B cs h ho h1 h2 h3=>by
  refine (vec_New W sv cs ho.in_ (by omega) (fun x hx=>by have:=h2 x hx;omega) (HT.out.keep h)).mono ?_
  rintro e w' (⟨hno,_⟩|⟨_,x,ps,rfl,hv,hp,hr,_,hb⟩)
  ·exact absurd h3.good hno
  ·obtain ⟨b,hx⟩:∃ b,x=.pointer (some ⟨b,0,none⟩):=by obtain ⟨b,_,_,h,_⟩:=hv;exact ⟨b,h⟩
   subst hx
   have h4:=parts_len hp
   exact ⟨b,ps,rfl,hv,by omega,hp,hr,parts_fits h3 hp,hb⟩
 have CT:Hid (∀ W,Calls Tryz.prog 8 #[.string ⟨l.toArray⟩,.int .i64 20] W (Keeps (.string ⟨(l.take 20).toArray⟩) W)):=Lib.hid fun W=>law_Text W l 20 hl (by omega)
 have CF:Hid (∀ W,Below w.heap.size w W→Calls Tryz.prog 7 #[.string ⟨(l.take 20).toArray⟩] W (fun e w'=>∃ x l,e=.returned x∧FracPtr w' x (fracOf l)∧FracGood l∧fracText (fracOf l)=l∧l.length≤1000∧Below W.heap.size W w')):=Lib.hid fun W h=>law_F2 W (HT.out.keep h) _ (by rw[List.length_take];omega)
 obtain ⟨A1,n1,q1,rfl⟩:∃ A n c,va=.slice A n c:=by obtain ⟨A,c,h,_⟩:=ha;exact ⟨_,_,_,h⟩
 obtain ⟨A2,n2,q2,rfl⟩:∃ A n c,vb=.slice A n c:=by obtain ⟨A,c,h,_⟩:=hb;exact ⟨_,_,_,h⟩
 obtain ⟨A3,n3,q3,rfl⟩:∃ A n c,vc=.slice A n c:=by obtain ⟨A,c,h,_⟩:=hc;exact ⟨_,_,_,h⟩
 obtain ⟨A4,n4,q4,rfl⟩:∃ A n c,vd=.slice A n c:=by obtain ⟨A,c,h,_⟩:=hd;exact ⟨_,_,_,h⟩
 clear ha hb hc hd hxs hys hus hvs hxb hyb hub hvb hl ht
 go_enter Tryz.func3,Tryz.ntmps3
 go_wp2_with fail
 refine CB.out.mono ?_
 rintro e w1 ⟨rfl,hb1⟩
 clear CB
 go_wp2_with fail
 go_at_call 5
 refine (CC1.out _ hb1).mono ?_
 rintro e w2 ⟨sa,ca,rfl,hoka,hla,hta,howna,hb2⟩
 have B2:=below_seq hb1 hb2
 obtain ⟨Aa,qa,hsa⟩:=howna.shape
 subst hsa
 have OA:=Lib.hid howna;have KA:=Lib.hid hoka;have TA:=Lib.hid hta
 clear CC1 hoka hta howna
 go_wp2_with fail
 go_at_call 5
 refine (CC2.out _ B2).mono ?_
 rintro e w3 ⟨sb,cb,rfl,hokb,hlb,htb,hownb,hb3⟩
 have B3:=below_seq B2 hb3
 have CN1:=Lib.hid (CN.out w3 _ _ ca B3 (OA.out.keep hb3) hla TA.out KA.out)
 obtain ⟨Ab,qb,hsb⟩:=hownb.shape
 subst hsb
 have OB:=Lib.hid hownb;have KB:=Lib.hid hokb;have TB:=Lib.hid htb
 clear CC2 hokb htb hownb
 go_wp2_with fail
 go_at_call 6
 refine CN1.out.mono ?_
 rintro e w4 ⟨ba,pa,rfl,hva,hpa,hpma,hra,hfa,hb4⟩
 have B4:=below_seq B3 hb4
 have VA:=Lib.hid hva;have FA:=Lib.hid hfa;have RA:=Lib.hid hra;have PA:=Lib.hid hpma
 have CN2:=Lib.hid (CN.out w4 _ _ cb B4 (OB.out.keep hb4) hlb TB.out KB.out)
 clear CN1 CN hva hfa hra hpma
 go_wp2_with fail
 go_at_call 6
 refine CN2.out.mono ?_
 rintro e w5 ⟨bb,pb,rfl,hvb,hpb,hpmb,hrb,hfb,hb5⟩
 have B5:=below_seq B4 hb5
 have VB:=Lib.hid hvb;have FB:=Lib.hid hfb;have RB:=Lib.hid hrb;have PB:=Lib.hid hpmb
 clear CN2 hvb hfb hrb hpmb
 go_wp2_with fail
 go_at_call 8
 refine (CT.out _).mono ?_
 rintro e w6 ⟨rfl,hb6⟩
 have B6:=below_seq B5 hb6
 go_wp2_with fail
 go_at_call 7
 refine (CF.out _ B6).mono ?_
 rintro e w7 ⟨xf,lf,rfl,hxf,hgf,htf,hlf,hb7⟩
 have B7:=below_seq B6 hb7
 obtain ⟨bf,rfl⟩:=hxf.ptr
 obtain ⟨f,hf⟩:∃ f,f=fracOf lf:=⟨_,rfl⟩
 have hff:Fits 2000 f:=by rw[hf];exact good_fits hgf
 rw[← hf]at hxf htf
 have XF:=Lib.hid hxf;have FF:=Lib.hid hff;have GF:=Lib.hid hgf;have EF:=Lib.hid hf
 have CX0:=frac_Text w7 (.pointer bf) f hxf.at_ (hff.mono (by omega)) (HT.out.keep B7)
 rw[htf]at CX0
 have CX:=Lib.hid CX0
 have CG:Hid (∀ W,Calls Tryz.prog 9 #[.string ⟨lf.toArray⟩] W (RefGotQ lf W)):=Lib.hid fun W=>ref_Get W lf (by omega)
 clear CX0 hxf hff hgf hf CT CF
 go_wp2_with fail
 go_at_call 10
 refine CX.out.mono ?_
 rintro e w8 ⟨rfl,hb8⟩
 go_wp2_with fail
 go_at_call 9
 refine (CG.out _).mono ?_
 rintro e w9 hgot
 obtain ⟨xv,rfl,hxv,hb9⟩:=refq_got hgot GF.out
 rw[← EF.out]at hxv
 obtain ⟨ngx,Ax,mx,cx,Dx,kx,ex,rfl⟩:=hxv.shape
 obtain ⟨wx,hwx⟩:∃ X,X=w9.alloc (.cells #[.bool ngx,.slice Ax mx cx,.slice Dx kx ex] 35):=⟨_,rfl⟩
 have h9x:Below w9.heap.size w9 wx:=by rw[hwx];exact (Below.refl _ _).alloc (Nat.le_refl _) _
 have hRx:Row wx w9.heap.size 35 #[.bool ngx,.slice Ax mx cx,.slice Dx kx ex]:=by rw[hwx];exact Row.new _ _ _
 have RX:=Lib.hid hRx;have IX:=Lib.hid (hxv.keep h9x)
 have h7x:=below_seq hb8 (below_seq hb9 h9x)
 have Bx:=below_seq B7 h7x
 have h5x:=below_seq hb6 (below_seq hb7 h7x)
 have h4x:=below_seq hb5 h5x
 have h3x:=below_seq hb4 h4x
 have h2x:=below_seq hb3 h3x
 have HWX:=Lib.hid hwx
 have CA:=Lib.hid (vec_Add wx _ _ pa pb (.pointer bf) f (.inr (VA.out.keep h4x)) (.inr (VB.out.keep h5x)) (XF.out.keep h7x).at_ (by omega) (by omega) (fun p hp=>(FA.out p hp).mono (by omega)) (fun p hp=>(FB.out p hp).mono (by omega)) (FF.out.mono (by omega)))
 clear hgot hxv hwx hRx CG CX
 go_upto_region 9 with fail
 rw[← HWX.out]
 go_wp2_with fail
 go_at_call 11
 refine CA.out.mono ?_
 rintro e ws ⟨xs',rfl,hvs,hfs,hbs⟩
 obtain ⟨bs,rfl⟩:∃ b,xs'=.pointer b:=by obtain ⟨b,_,_,h,_⟩:=hvs;exact ⟨_,h⟩
 obtain ⟨mg,hmg⟩:∃ m,m=mergeV f pa pb:=⟨_,rfl⟩
 rw[← hmg]at hvs hfs
 have hmr:Rising mg:=by rw[hmg];exact merge_rising f pa pb RA.out RB.out
 have hmn:∀ p∈mg,p.2≠0:=by rw[hmg];exact merge_ne f pa pb
 have hmp:∀ p∈mg,0≤p.1∧p.1<30:=by
  intro p hp
  rw[hmg]at hp
  rcases merge_mem f pa pb p hp with ⟨x,hx,e⟩|⟨x,hx,e⟩
  ·rw[← e];exact parts_place KA.out PA.out x hx
  ·rw[← e];exact parts_place KB.out PB.out x hx
 have hml:mg.length≤20:=by rw[hmg];exact Nat.le_trans (merge_len f pa pb) (by omega)
 have hma:∀ i,atOf mg i=atC ca i+f*atC cb i:=fun i=>by rw[hmg,merge_at f pa pb RA.out RB.out,atOf_atC PA.out RA.out KA.out.1,atOf_atC PB.out RB.out KB.out.1]
 have VS:=Lib.hid hvs;have FS:=Lib.hid hfs;have MR:=Lib.hid hmr;have MN:=Lib.hid hmn;have MP:=Lib.hid hmp;have MA:=Lib.hid hma
 clear CA hvs hfs hmg hmr hmn hmp hma HWX
 go_wp2_with fail
 go_at_call 12
 refine (refq_Zero ws).mono ?_
 rintro e wz ⟨xz,rfl,hxz,hbz⟩
 obtain ⟨ng0,A0,m0,c0,D0,k0,e0,rfl⟩:=hxz.shape
 obtain ⟨wg,hwg⟩:∃ X,X=wz.alloc (.cells #[.bool ng0,.slice A0 m0 c0,.slice D0 k0 e0] 35):=⟨_,rfl⟩
 have hzg:Below wz.heap.size wz wg:=by rw[hwg];exact (Below.refl _ _).alloc (Nat.le_refl _) _
 have hRg:Row wg wz.heap.size 35 #[.bool ng0,.slice A0 m0 c0,.slice D0 k0 e0]:=by rw[hwg];exact Row.new _ _ _
 obtain ⟨D,hD⟩:∃ D:Nat→Rat,D=fun n=>sigA n fun j=>atC ca (j:Nat)*atC cb (j:Nat):=⟨_,rfl⟩
 have hVg:Hid (RefVar 35 wg wz.heap.size (D 0) (0*1201+1)):=Lib.hid ⟨_,_,_,_,_,_,_,hRg,by rw[hD];exact hxz.keep hzg⟩
 have HD:Hid (∀ n,D (n+1)=D n+atC ca (n:Nat)*atC cb (n:Nat)):=Lib.hid fun n=>by rw[hD];rfl
 have DE:=Lib.hid hD
 have KW:Hid (∀ W,Below wz.heap.size wz W→Below w.heap.size w W):=Lib.hid fun W h=>below_seq Bx (below_seq hbs (below_seq hbz h))
 have KXV:Hid (∀ W,Below wz.heap.size wz W→(Row W w9.heap.size 35 #[.bool ngx,.slice Ax mx cx,.slice Dx kx ex]∧RefIs W (.agg #[.bool ngx,.slice Ax mx cx,.slice Dx kx ex]) f 600)):=Lib.hid fun W h=>⟨RX.out.keep (below_seq hbs (below_seq hbz h)),IX.out.keep (below_seq hbs (below_seq hbz h))⟩
 have KOA:Hid (∀ W,Below wz.heap.size wz W→CoefsIn W (.slice Aa ca.length qa) ca):=Lib.hid fun W h=>(OA.out.keep (below_seq h2x (below_seq hbs (below_seq hbz h)))).in_
 have KOB:Hid (∀ W,Below wz.heap.size wz W→CoefsIn W (.slice Ab cb.length qb) cb):=Lib.hid fun W h=>(OB.out.keep (below_seq h3x (below_seq hbs (below_seq hbz h)))).in_
 have KVA:Hid (∀ W,Below wz.heap.size wz W→VecPtr W (.pointer (some ⟨ba,0,none⟩)) pa):=Lib.hid fun W h=>VA.out.keep (below_seq h4x (below_seq hbs (below_seq hbz h)))
 have KVB:Hid (∀ W,Below wz.heap.size wz W→VecPtr W (.pointer (some ⟨bb,0,none⟩)) pb):=Lib.hid fun W h=>VB.out.keep (below_seq h5x (below_seq hbs (below_seq hbz h)))
 have KVS:Hid (∀ W,Below wz.heap.size wz W→VecPtr W (.pointer bs) mg):=Lib.hid fun W h=>VS.out.keep (below_seq hbz h)
 have CAT1:Hid (∀ W i,Below wz.heap.size wz W→Calls Tryz.prog 13 #[.slice Aa ca.length qa,.int .i64 i] W (GivesQ (atC ca i) 600 W)):=Lib.hid fun W i h=>law_at W _ ca i (KOA.out W h) (fun x hx=>⟨(KA.out.2 x hx).2,Nat.le_trans (TA.out x hx) (by omega)⟩) (by omega)
 have CAT2:Hid (∀ W i,Below wz.heap.size wz W→Calls Tryz.prog 13 #[.slice Ab cb.length qb,.int .i64 i] W (GivesQ (atC cb i) 600 W)):=Lib.hid fun W i h=>law_at W _ cb i (KOB.out W h) (fun x hx=>⟨(KB.out.2 x hx).2,Nat.le_trans (TB.out x hx) (by omega)⟩) (by omega)
 have HWG:=Lib.hid hwg
 have hlt9:w9.heap.size<wz.heap.size:=by
  have h1:=RX.out.lt
  have h2:=hbs.size
  have h3:=hbz.size
  omega
 have PEA:Hid (∀ i,atOf pa i=atC ca i):=Lib.hid fun i=>atOf_atC PA.out RA.out KA.out.1 i
 have PEB:Hid (∀ i,atOf pb i=atC cb i):=Lib.hid fun i=>atOf_atC PB.out RB.out KB.out.1 i
 clear hwg hxz hRg hD VA VB VS OA OB RX IX XF KOA KOB B2 B3 B4 B5 B6 B7 Bx h2x h3x h4x h5x h7x hb1 hb2 hb3 hb4 hb5 hb6 hb7 hb8 hb9 h9x TA TB htf hlf hbs
 go_upto_region 13 with fail
 rw[← HWG.out]
 go_wp2_with fail
 go_loopw [24,23] (fun t u wx=>∃ i:Nat,t=.int .i64 i∧u=.int .i64 (cnt mg i:Nat)∧i≤31∧Hid (RefVar 35 wx wz.heap.size (D i) (i*1201+1))∧Below wz.heap.size wz wx) (fun t _ _=>31 - (intOf t).toNat)
 case atStart=>exact ⟨0,rfl,rfl,by omega,hVg,hzg⟩
 case round=>
  clear hVg hzg HWG
  obtain ⟨i,rfl,rfl,hi,hvar,hbr⟩:=hrel
  by_cases hil:i<31
  ·have hil':(i:Int)<31:=by omega
   obtain ⟨W,hW⟩:∃ X,X=wr:=⟨_,rfl⟩
   subst wr
   obtain ⟨N0,hN0⟩:∃ N0,N0=cnt mg i:=⟨_,rfl⟩
   have hN1:cnt mg (i+1)=N0+if atOf mg (i:Nat)=0 then 0 else 1:=by rw[hN0];rfl
   have hNle:N0≤31:=by rw[hN0];exact Nat.le_trans (cnt_le mg i) hi
   rw[← hN0]
   have HN1:=Lib.hid hN1
   clear hN0 hN1
   go_wp2_with fail
   go_at_call 13
   refine (CAT1.out W i hbr).mono ?_
   rintro e u1 ⟨pv,rfl,hpv,hc1⟩
   have x1:=below_seq hbr hc1
   obtain ⟨ng1,A1',m1',c1',D1,k1,e1,rfl⟩:=hpv.shape
   go_wp2_with fail
   go_at_call 13
   refine (CAT2.out u1 i x1).mono ?_
   rintro e u2 ⟨qv,rfl,hqv,hc2⟩
   have x2:=below_seq x1 hc2
   obtain ⟨ng2,A2x,m2x,c2x,D2,k2,e2,rfl⟩:=hqv.shape
   obtain ⟨wp,hwp⟩:∃ X,X=u2.alloc (.cells #[.bool ng1,.slice A1' m1' c1',.slice D1 k1 e1] 35):=⟨_,rfl⟩
   have hp1:Below u2.heap.size u2 wp:=by rw[hwp];exact (Below.refl _ _).alloc (Nat.le_refl _) _
   have hRp:Row wp u2.heap.size 35 #[.bool ng1,.slice A1' m1' c1',.slice D1 k1 e1]:=by rw[hwp];exact Row.new _ _ _
   have hsp:wp.heap.size=u2.heap.size+1:=by rw[hwp];simp
   obtain ⟨wv,hwv⟩:∃ X,X=wp.alloc (.cells #[.bool ng2,.slice A2x m2x c2x,.slice D2 k2 e2] 35):=⟨_,rfl⟩
   have hp2:Below wp.heap.size wp wv:=by rw[hwv];exact (Below.refl _ _).alloc (Nat.le_refl _) _
   have hRq:Row wv (u2.heap.size+1) 35 #[.bool ng2,.slice A2x m2x c2x,.slice D2 k2 e2]:=by rw[hwv,← hsp];exact Row.new _ _ _
   have hsv:wv.heap.size=u2.heap.size+2:=by rw[hwv];simp;omega
   have h2v:=below_seq hp1 hp2
   have xv:=below_seq x2 h2v
   have RP:=Lib.hid (hRp.keep hp2);have RQ:=Lib.hid hRq
   have IP:=Lib.hid ((hpv.keep hc2).keep h2v);have IQ:=Lib.hid (hqv.keep h2v)
   have hlt22:wz.heap.size<u2.heap.size:=by
    have h1:=(hvar.out.choose_spec.choose_spec.choose_spec.choose_spec.choose_spec.choose_spec.choose_spec.1).lt
    have h2:=hc1.size
    have h3:=hc2.size
    omega
   have VAR:=Lib.hid (hvar.out.keep (below_seq hc1 (below_seq hc2 h2v)))
   have HWP:=Lib.hid hwp;have HWV:=Lib.hid hwv
   have HX0:=Lib.hid (KXV.out wv xv)
   clear hpv hqv hwp hwv hRp hRq hvar hc1 hc2 x1 x2 hp1 hp2 h2v
   go_upto_region 18 with fail
   rw[← HWP.out,← HWV.out]
   clear HWP HWV
   have KC:Hid (∀ X:World,Below wv.heap.size wv X→(X.cell? ⟨u2.heap.size,0,none⟩=some (.bool ng1)∧X.cell? ⟨u2.heap.size,1,none⟩=some (.slice A1' m1' c1')∧X.cell? ⟨u2.heap.size,2,none⟩=some (.slice D1 k1 e1))∧(X.cell? ⟨u2.heap.size+1,0,none⟩=some (.bool ng2)∧X.cell? ⟨u2.heap.size+1,1,none⟩=some (.slice A2x m2x c2x)∧X.cell? ⟨u2.heap.size+1,2,none⟩=some (.slice D2 k2 e2))∧(X.cell? ⟨w9.heap.size,0,none⟩=some (.bool ngx)∧X.cell? ⟨w9.heap.size,1,none⟩=some (.slice Ax mx cx)∧X.cell? ⟨w9.heap.size,2,none⟩=some (.slice Dx kx ex))):=Lib.hid fun X h=>by
    have p1:=RP.out.keep h
    have p2:=RQ.out.keep h
    have p3:=HX0.out.1.keep h
    exact ⟨⟨p1.cell 0,p1.cell 1,p1.cell 2⟩,⟨p2.cell 0,p2.cell 1,p2.cell 2⟩,p3.cell 0,p3.cell 1,p3.cell 2⟩
   refine wp_region_held (S:=fun X:World=>Below wv.heap.size wv X) (by kernel_rfl) ?_
   change wpAnyH _ _ _ _ _ _ _ _ (World.drew _)
   obtain ⟨X0,hX0⟩:∃ X,X=(wv).drew:=⟨_,rfl⟩
   rw[← hX0]
   have y0:Below (wv).heap.size (wv) X0:=by rw[hX0];exact Below.drewN_ (Below.refl _ _) 1
   clear hX0
   refine wpAnyH_take (i:=0) (oi:=vva18_0) (v:=.agg #[.bool ng1,.slice A1' m1' c1',.slice D1 k1 e1]) rfl (by kernel_rfl) (by kernel_rfl) (by kernel_rfl) (fun _ _ _ h=>h) (Or.inl ⟨by kernel_rfl,?_⟩) (y0) ?_
   ·intro w hSw;obtain ⟨⟨e0,e1,e2⟩,⟨e3,e4,e5⟩,e6,e7,e8⟩:=KC.out w hSw;go_simp<;>first|omega|(intro hh;exfalso;omega)|rfl
   try simp only[Act.put,List.setIfInBounds_toArray,List.set_cons_zero,List.set_cons_succ,vva18_0]
   refine wpAnyH_take (i:=1) (oi:=vva18_1) (v:=.agg #[.bool ngx,.slice Ax mx cx,.slice Dx kx ex]) rfl (by kernel_rfl) (by kernel_rfl) (by kernel_rfl) (fun _ _ _ h=>h) (Or.inl ⟨by kernel_rfl,?_⟩) (y0) ?_
   ·intro w hSw;obtain ⟨⟨e0,e1,e2⟩,⟨e3,e4,e5⟩,e6,e7,e8⟩:=KC.out w hSw;go_simp<;>first|omega|(intro hh;exfalso;omega)|rfl
   try simp only[Act.put,List.setIfInBounds_toArray,List.set_cons_zero,List.set_cons_succ,vva18_1]
   refine wpAnyH_take (i:=2) (oi:=vva18_2) (v:=.agg #[.bool ng2,.slice A2x m2x c2x,.slice D2 k2 e2]) rfl (by kernel_rfl) (by kernel_rfl) (by kernel_rfl) (fun _ _ _ h=>h) (Or.inl ⟨by kernel_rfl,?_⟩) (y0) ?_
   ·intro w hSw;obtain ⟨⟨e0,e1,e2⟩,⟨e3,e4,e5⟩,e6,e7,e8⟩:=KC.out w hSw;go_simp<;>first|omega|(intro hh;exfalso;omega)|rfl
   try simp only[Act.put,List.setIfInBounds_toArray,List.set_cons_zero,List.set_cons_succ,vva18_2]
   refine wpAnyH_ready (rs:=[3,5]) (by kernel_rfl) (by simp) ?_
   apply AllReadyH.cons (o:=vva18_3) (by kernel_rfl)
   case h=>
    intro K hK
    simp only[vva18_3]
    go_simp
    go_at_call 15
    refine (refq_Prod _ _ _ f (atC cb (i:Nat)) 600 600 (HX0.out.2.keep y0) (IQ.out.keep y0) (by omega) (by omega)).mono ?_
    rintro e' X1 ⟨pv,rfl,hpv,b1⟩
    have y1:=below_seq y0 b1
    obtain ⟨ng4,A4,m4,c4,D4,k4,e4,rfl⟩:=hpv.shape
    have PR1:=Lib.hid hpv
    clear hpv
    refine hK.out _ _ (y1) (fun hHeld=>?_)
    clear hK K hHeld
    try simp only[Act.put,List.setIfInBounds_toArray,List.set_cons_zero,List.set_cons_succ]
    refine wpAnyH_ready (rs:=[4,5]) (by kernel_rfl) (by simp) ?_
    apply AllReadyH.cons (o:=vva18_4) (by kernel_rfl)
    case h=>
     intro K hK
     simp only[vva18_4]
     go_simp
     go_at_call 14
     refine (refq_Sum _ _ _ _ _ 600 (600+600) (IP.out.keep y1) PR1.out (by omega) (by omega)).mono ?_
     rintro e' X2 ⟨sv,rfl,hsv,b2⟩
     have y2:=below_seq y1 b2
     rw[← MA.out]at hsv
     obtain ⟨ng5,A5,m5,c5,D5,k5,e5,rfl⟩:=hsv.shape
     have PR_2:=Lib.hid (PR1.out.keep b2)
     have SM2:=Lib.hid hsv
     clear hsv
     refine hK.out _ _ (y2) (fun hHeld=>?_)
     clear hK K hHeld
     try simp only[Act.put,List.setIfInBounds_toArray,List.set_cons_zero,List.set_cons_succ]
     refine wpAnyH_ready (rs:=[5]) (by kernel_rfl) (by simp) ?_
     apply AllReadyH.cons (o:=vva18_5) (by kernel_rfl)
     case hs=>exact AllReadyH.nil
     intro K hK
     simp only[vva18_5]
     go_simp
     obtain ⟨X3,hX3⟩:∃ X,X=X2.alloc (.cells #[.bool false,.slice none 0 0,.slice none 0 0] 35):=⟨_,rfl⟩
     rw[← hX3]
     have b3:Below X2.heap.size X2 X3:=by rw[hX3];exact (Below.refl _ _).alloc (Nat.le_refl _) _
     have RW3:=Lib.hid (show Row X3 X2.heap.size 35 #[.bool false,.slice none 0 0,.slice none 0 0] by rw[hX3];exact Row.new _ _ _)
     have y3:=below_seq y2 b3
     have hge:=y2.size
     clear hX3
     have PR_3:=Lib.hid (PR_2.out.keep b3)
     have SM_3:=Lib.hid (SM2.out.keep b3)
     refine hK.out _ _ (y3) (fun hHeld=>?_)
     clear hK K hHeld
     try simp only[Act.put,List.setIfInBounds_toArray,List.set_cons_zero,List.set_cons_succ]
     refine wpAnyH_ready (rs:=[6]) (by kernel_rfl) (by simp) ?_
     apply AllReadyH.cons (o:=vva18_6) (by kernel_rfl)
     case hs=>exact AllReadyH.nil
     intro K hK
     simp only[vva18_6]
     obtain ⟨w9',hw9,hrow9,hb9,hO9,q0,q1,q2,f0,f1,f2⟩:=qput2 (.bool ng5) (.slice A5 m5 c5) (.slice D5 k5 e5) RW3.out y3 hge
     have S9:Hid (RefVar 35 w9' X2.heap.size (atOf mg (i:Nat)) 1801):=Lib.hid ⟨_,_,_,_,_,_,_,hrow9,((SM_3.out.rowq RW3.out hO9).mono (by omega))⟩
     have HW9:=Lib.hid hw9
     clear hw9 hrow9 hO9
     go_simp
     rw[← HW9.out]
     clear q0 q1 q2 f0 f1 f2
     refine hK.out _ _ (hb9) (fun hHeld=>?_)
     clear hK K hHeld
     try simp only[Act.put,List.setIfInBounds_toArray,List.set_cons_zero,List.set_cons_succ]
     refine wpAnyH_done (by kernel_rfl) ?_ _
     obtain ⟨al,hal⟩:∃ al,al=X2.heap.size:=⟨_,rfl⟩
     rw[← hal]at S9 hge ⊢
     have y18:=hb9
     clear hal
     obtain ⟨ng6,A6,m6,c6,D6,k6,e6,hRs,hIs⟩:=S9.out
     have KS:Hid (∀ X:World,Below w9'.heap.size w9' X→(X.cell? ⟨u2.heap.size,0,none⟩=some (.bool ng1)∧X.cell? ⟨u2.heap.size,1,none⟩=some (.slice A1' m1' c1')∧X.cell? ⟨u2.heap.size,2,none⟩=some (.slice D1 k1 e1))∧X.cell? ⟨al,0,none⟩=some (.bool ng6)∧X.cell? ⟨al,1,none⟩=some (.slice A6 m6 c6)∧X.cell? ⟨al,2,none⟩=some (.slice D6 k6 e6)):=Lib.hid fun X h=>by
      have p1:=(KC.out X (below_seq y18 h)).1
      have p2:=Row.keep hRs h
      exact ⟨p1,p2.cell 0,p2.cell 1,p2.cell 2⟩
     have RS:=Lib.hid hRs;have IS:=Lib.hid hIs
     have xs9:=below_seq xv y18
     have CV1:Hid (∀ X,Below w9'.heap.size w9' X→Calls Tryz.prog 16 #[.pointer (some ⟨ba,0,none⟩),.int .i64 i] X (Gives (fun z w'=>FracPtr w' z (atC ca (i:Nat))) X)):=Lib.hid fun X h=>by
      rw[← PEA.out]
      exact vec_At X _ pa (.inr (KVA.out X (below_seq xs9 h))) (by omega) i
     have CV2:Hid (∀ X,Below w9'.heap.size w9' X→Calls Tryz.prog 16 #[.pointer bs,.int .i64 i] X (Gives (fun z w'=>FracPtr w' z (atOf mg (i:Nat))) X)):=Lib.hid fun X h=>vec_At X _ mg (.inr (KVS.out X (below_seq xs9 h))) (by omega) i
     have fa:Fits 2000 (atC ca (i:Nat)):=by rw[← PEA.out];exact atOf_fits (by omega) FA.out _
     have fs:Fits 1000000 (atOf mg (i:Nat)):=atOf_fits (by omega) FS.out _
     obtain ⟨TA,hTA⟩:∃ T:ByteArray,T=⟨(fracText (atC ca (i:Nat))).toArray⟩:=⟨_,rfl⟩
     obtain ⟨TS,hTS⟩:∃ T:ByteArray,T=⟨(fracText (atOf mg (i:Nat))).toArray⟩:=⟨_,rfl⟩
     have CX1:Hid (∀ X v,Below w9'.heap.size w9' X→FracPtr X v (atC ca (i:Nat))→Calls Tryz.prog 10 #[v] X (Keeps (.string TA) X)):=Lib.hid fun X v h hv=>by rw[hTA];exact frac_Text X v _ hv.at_ (fa.mono (by omega)) (HT.out.keep (KW.out X (below_seq xs9 h)))
     have CX2:Hid (∀ X v,Below w9'.heap.size w9' X→FracPtr X v (atOf mg (i:Nat))→Calls Tryz.prog 10 #[v] X (Keeps (.string TS) X)):=Lib.hid fun X v h hv=>by rw[hTS];exact frac_Text X v _ hv.at_ (fs.mono (by omega)) (HT.out.keep (KW.out X (below_seq xs9 h)))
     have CQ1:Hid (∀ X,Below w9'.heap.size w9' X→Calls Tryz.prog 17 #[.agg #[.bool ng1,.slice A1' m1' c1',.slice D1 k1 e1]] X (Keeps (.string TA) X)):=Lib.hid fun X h=>by rw[hTA];exact refq_Text X _ _ _ (IP.out.keep (below_seq y18 h)) (by omega)
     have CQ2:Hid (∀ X,Below w9'.heap.size w9' X→Calls Tryz.prog 17 #[.agg #[.bool ng6,.slice A6 m6 c6,.slice D6 k6 e6]] X (Keeps (.string TS) X)):=Lib.hid fun X h=>by rw[hTS];exact refq_Text X _ _ _ (IS.out.keep h) (by omega)
     clear hRs hIs fa fs hTA hTS S9
     go_upto_region 19 with fail
     refine wp_region_held (S:=fun X:World=>Below w9'.heap.size w9' X) (by kernel_rfl) ?_
     change wpAnyH _ _ _ _ _ _ _ _ (World.drew _)
     obtain ⟨V0,hV0⟩:∃ X,X=(w9').drew:=⟨_,rfl⟩
     rw[← hV0]
     have t0:Below (w9').heap.size (w9') V0:=by rw[hV0];exact Below.drewN_ (Below.refl _ _) 1
     clear hV0
     refine wpAnyH_take (i:=0) (oi:=vva19_0) (v:=.pointer (some ⟨ba,0,none⟩)) rfl (by kernel_rfl) (by kernel_rfl) (by kernel_rfl) (fun _ _ _ h=>h) (Or.inl ⟨by kernel_rfl,?_⟩) (t0) ?_
     ·intro w hSw;go_simp<;>first|omega|(intro hh;exfalso;omega)|rfl|simp
     try simp only[Act.put,List.setIfInBounds_toArray,List.set_cons_zero,List.set_cons_succ,vva19_0]
     refine wpAnyH_take (i:=1) (oi:=vva19_1) (v:=.int .i64 i) rfl (by kernel_rfl) (by kernel_rfl) (by kernel_rfl) (fun _ _ _ h=>h) (Or.inl ⟨by kernel_rfl,?_⟩) (t0) ?_
     ·intro w hSw;go_simp<;>first|omega|(intro hh;exfalso;omega)|rfl|simp
     try simp only[Act.put,List.setIfInBounds_toArray,List.set_cons_zero,List.set_cons_succ,vva19_1]
     refine wpAnyH_take (i:=4) (oi:=vva19_4) (v:=.agg #[.bool ng1,.slice A1' m1' c1',.slice D1 k1 e1]) rfl (by kernel_rfl) (by kernel_rfl) (by kernel_rfl) (fun _ _ _ h=>h) (Or.inl ⟨by kernel_rfl,?_⟩) (t0) ?_
     ·intro w hSw;obtain ⟨⟨e0,e1,e2⟩,e3,e4,e5⟩:=KS.out w hSw;go_simp<;>first|omega|(intro hh;exfalso;omega)|rfl|simp
     try simp only[Act.put,List.setIfInBounds_toArray,List.set_cons_zero,List.set_cons_succ,vva19_4]
     refine wpAnyH_ready (rs:=[2]) (by kernel_rfl) (by simp) ?_
     apply AllReadyH.cons (o:=vva19_2) (by kernel_rfl)
     case hs=>exact AllReadyH.nil
     intro K hK
     simp only[vva19_2]
     go_simp
     go_at_call 16
     refine (CV1.out _ t0).mono ?_
     rintro e' V1 ⟨v1,rfl,hv1,d1⟩
     have t1:=below_seq t0 d1
     have HV1:=Lib.hid hv1
     obtain ⟨p1,rfl⟩:=hv1.ptr
     clear hv1
     refine hK.out _ _ (t1) (fun hHeld=>?_)
     clear hK K hHeld
     try simp only[Act.put,List.setIfInBounds_toArray,List.set_cons_zero,List.set_cons_succ]
     refine wpAnyH_ready (rs:=[3]) (by kernel_rfl) (by simp) ?_
     apply AllReadyH.cons (o:=vva19_3) (by kernel_rfl)
     case hs=>exact AllReadyH.nil
     intro K hK
     simp only[vva19_3]
     go_simp
     go_at_call 10
     refine (CX1.out _ _ t1 HV1.out).mono ?_
     rintro e' V2 ⟨rfl,d2⟩
     have t2:=below_seq t1 d2
     refine hK.out _ _ (t2) (fun hHeld=>?_)
     clear hK K hHeld
     try simp only[Act.put,List.setIfInBounds_toArray,List.set_cons_zero,List.set_cons_succ]
     refine wpAnyH_ready (rs:=[5]) (by kernel_rfl) (by simp) ?_
     apply AllReadyH.cons (o:=vva19_5) (by kernel_rfl)
     case hs=>exact AllReadyH.nil
     intro K hK
     simp only[vva19_5]
     go_simp
     go_at_call 17
     refine (CQ1.out _ t2).mono ?_
     rintro e' V3 ⟨rfl,d3⟩
     have t3:=below_seq t2 d3
     refine hK.out _ _ (t3) (fun hHeld=>?_)
     clear hK K hHeld
     try simp only[Act.put,List.setIfInBounds_toArray,List.set_cons_zero,List.set_cons_succ]
     refine wpAnyH_take (i:=6) (oi:=vva19_6) (v:=.bool false) rfl (by kernel_rfl) (by kernel_rfl) (by kernel_rfl) (fun _ _ _ h=>h) (Or.inl ⟨by kernel_rfl,?_⟩) (t3) ?_
     ·intro w hSw;go_simp<;>first|omega|(intro hh;exfalso;omega)|rfl|simp
     try simp only[Act.put,List.setIfInBounds_toArray,List.set_cons_zero,List.set_cons_succ,vva19_6]
     refine wpAnyH_take (i:=7) (oi:=vva19_7) (v:=.bool false) rfl (by kernel_rfl) (by kernel_rfl) (by kernel_rfl) (fun _ _ _ h=>h) (Or.inl ⟨by kernel_rfl,?_⟩) (t3) ?_
     ·intro w hSw;go_simp<;>first|omega|(intro hh;exfalso;omega)|rfl|simp
     try simp only[Act.put,List.setIfInBounds_toArray,List.set_cons_zero,List.set_cons_succ,vva19_7]
     refine wpAnyH_take (i:=8) (oi:=vva19_8) (v:=.pointer bs) rfl (by kernel_rfl) (by kernel_rfl) (by kernel_rfl) (fun _ _ _ h=>h) (Or.inl ⟨by kernel_rfl,?_⟩) (t3) ?_
     ·intro w hSw;go_simp<;>first|omega|(intro hh;exfalso;omega)|rfl|simp
     try simp only[Act.put,List.setIfInBounds_toArray,List.set_cons_zero,List.set_cons_succ,vva19_8]
     refine wpAnyH_take (i:=9) (oi:=vva19_9) (v:=.int .i64 i) rfl (by kernel_rfl) (by kernel_rfl) (by kernel_rfl) (fun _ _ _ h=>h) (Or.inl ⟨by kernel_rfl,?_⟩) (t3) ?_
     ·intro w hSw;go_simp<;>first|omega|(intro hh;exfalso;omega)|rfl|simp
     try simp only[Act.put,List.setIfInBounds_toArray,List.set_cons_zero,List.set_cons_succ,vva19_9]
     refine wpAnyH_take (i:=12) (oi:=vva19_12) (v:=.agg #[.bool ng6,.slice A6 m6 c6,.slice D6 k6 e6]) rfl (by kernel_rfl) (by kernel_rfl) (by kernel_rfl) (fun _ _ _ h=>h) (Or.inl ⟨by kernel_rfl,?_⟩) (t3) ?_
     ·intro w hSw;obtain ⟨⟨e0,e1,e2⟩,e3,e4,e5⟩:=KS.out w hSw;go_simp<;>first|omega|(intro hh;exfalso;omega)|rfl|simp
     try simp only[Act.put,List.setIfInBounds_toArray,List.set_cons_zero,List.set_cons_succ,vva19_12]
     refine wpAnyH_ready (rs:=[10]) (by kernel_rfl) (by simp) ?_
     apply AllReadyH.cons (o:=vva19_10) (by kernel_rfl)
     case hs=>exact AllReadyH.nil
     intro K hK
     simp only[vva19_10]
     go_simp
     go_at_call 16
     refine (CV2.out _ t3).mono ?_
     rintro e' V4 ⟨v4,rfl,hv4,d4⟩
     have t4:=below_seq t3 d4
     have HV4:=Lib.hid hv4
     obtain ⟨p4,rfl⟩:=hv4.ptr
     clear hv4
     refine hK.out _ _ (t4) (fun hHeld=>?_)
     clear hK K hHeld
     try simp only[Act.put,List.setIfInBounds_toArray,List.set_cons_zero,List.set_cons_succ]
     refine wpAnyH_ready (rs:=[11]) (by kernel_rfl) (by simp) ?_
     apply AllReadyH.cons (o:=vva19_11) (by kernel_rfl)
     case hs=>exact AllReadyH.nil
     intro K hK
     simp only[vva19_11]
     go_simp
     go_at_call 10
     refine (CX2.out _ _ t4 HV4.out).mono ?_
     rintro e' V5 ⟨rfl,d5⟩
     have t5:=below_seq t4 d5
     refine hK.out _ _ (t5) (fun hHeld=>?_)
     clear hK K hHeld
     try simp only[Act.put,List.setIfInBounds_toArray,List.set_cons_zero,List.set_cons_succ]
     refine wpAnyH_ready (rs:=[13]) (by kernel_rfl) (by simp) ?_
     apply AllReadyH.cons (o:=vva19_13) (by kernel_rfl)
     case hs=>exact AllReadyH.nil
     intro K hK
     simp only[vva19_13]
     go_simp
     go_at_call 17
     refine (CQ2.out _ t5).mono ?_
     rintro e' V6 ⟨rfl,d6⟩
     have t6:=below_seq t5 d6
     refine hK.out _ _ (t6) (fun hHeld=>?_)
     clear hK K hHeld
     try simp only[Act.put,List.setIfInBounds_toArray,List.set_cons_zero,List.set_cons_succ]
     refine wpAnyH_take (i:=14) (oi:=vva19_14) (v:=.bool false) rfl (by kernel_rfl) (by kernel_rfl) (by kernel_rfl) (fun _ _ _ h=>h) (Or.inl ⟨by kernel_rfl,?_⟩) (t6) ?_
     ·intro w hSw;go_simp<;>first|omega|(intro hh;exfalso;omega)|rfl|simp
     try simp only[Act.put,List.setIfInBounds_toArray,List.set_cons_zero,List.set_cons_succ,vva19_14]
     refine wpAnyH_take (i:=15) (oi:=vva19_15) (v:=.bool false) rfl (by kernel_rfl) (by kernel_rfl) (by kernel_rfl) (fun _ _ _ h=>h) (Or.inl ⟨by kernel_rfl,?_⟩) (t6) ?_
     ·intro w hSw;go_simp<;>first|omega|(intro hh;exfalso;omega)|rfl|simp
     try simp only[Act.put,List.setIfInBounds_toArray,List.set_cons_zero,List.set_cons_succ,vva19_15]
     refine wpAnyH_done (by kernel_rfl) ?_ _
     obtain ⟨ww,hww⟩:∃ X,X=V6:=⟨_,rfl⟩
     have yw:Below wv.heap.size wv V6:=below_seq y18 t6
     have SV:=Lib.hid (RS.out.keep t6);have SI:=Lib.hid (IS.out.keep t6)
     obtain ⟨ng3,A3x,m3x,c3x,D3x,k3x,e3x,hR3,hI3⟩:=VAR.out.keep yw
     have HS:Hid (Row V6 wz.heap.size 35 #[.bool ng3,.slice A3x m3x c3x,.slice D3x k3x e3x]∧RefIs V6 (.agg #[.bool ng3,.slice A3x m3x c3x,.slice D3x k3x e3x]) (D i) (i*1201+1)):=Lib.hid ⟨hR3,hI3⟩
     have IP6:=Lib.hid (IP.out.keep yw);have IQ6:=Lib.hid (IQ.out.keep yw)
     have RP6:=Lib.hid (RP.out.keep yw);have RQ6:=Lib.hid (RQ.out.keep yw)
     have zw6:=below_seq xv yw
     have hal:wz.heap.size<al:=by omega
     have HQ:Hid (∀ X:World,(∀ b,b≠wz.heap.size→b<V6.heap.size→X.heap[b]?=V6.heap[b]?)→(X.cell? ⟨u2.heap.size,0,none⟩=some (.bool ng1)∧X.cell? ⟨u2.heap.size,1,none⟩=some (.slice A1' m1' c1')∧X.cell? ⟨u2.heap.size,2,none⟩=some (.slice D1 k1 e1))∧(X.cell? ⟨u2.heap.size+1,0,none⟩=some (.bool ng2)∧X.cell? ⟨u2.heap.size+1,1,none⟩=some (.slice A2x m2x c2x)∧X.cell? ⟨u2.heap.size+1,2,none⟩=some (.slice D2 k2 e2))):=Lib.hid fun X h=>by
      have p1:Row X u2.heap.size 35 #[.bool ng1,.slice A1' m1' c1',.slice D1 k1 e1]:=(h _ (by omega) RP6.out.lt).trans RP6.out
      have p2:Row X (u2.heap.size+1) 35 #[.bool ng2,.slice A2x m2x c2x,.slice D2 k2 e2]:=(h _ (by omega) RQ6.out.lt).trans RQ6.out
      exact ⟨⟨p1.cell 0,p1.cell 1,p1.cell 2⟩,p2.cell 0,p2.cell 1,p2.cell 2⟩
     clear hR3 hI3 VAR
     go_upto_region 21 with fail
     refine wp_region_held (S:=fun X:World=>∀ b,b≠wz.heap.size→b<V6.heap.size→X.heap[b]?=V6.heap[b]?) (by kernel_rfl) ?_
     change wpAnyH _ _ _ _ _ _ _ _ (World.drew _)
     obtain ⟨X0,hX0⟩:∃ X,X=(V6).drew:=⟨_,rfl⟩
     rw[← hX0]
     have y0:Below (V6).heap.size (V6) X0:=by rw[hX0];exact Below.drewN_ (Below.refl _ _) 1
     clear hX0
     refine wpAnyH_take (i:=1) (oi:=vva21_1) (v:=.agg #[.bool ng1,.slice A1' m1' c1',.slice D1 k1 e1]) rfl (by kernel_rfl) (by kernel_rfl) (by kernel_rfl) (fun _ _ _ h=>h) (Or.inl ⟨by kernel_rfl,?_⟩) ((fun b _ hb=>(y0).block b hb)) ?_
     ·intro w hSw;obtain ⟨⟨e0,e1,e2⟩,e3,e4,e5⟩:=HQ.out w hSw;go_simp<;>first|omega|(intro hh;exfalso;omega)|rfl
     try simp only[Act.put,List.setIfInBounds_toArray,List.set_cons_zero,List.set_cons_succ,vva21_1]
     refine wpAnyH_take (i:=2) (oi:=vva21_2) (v:=.agg #[.bool ng2,.slice A2x m2x c2x,.slice D2 k2 e2]) rfl (by kernel_rfl) (by kernel_rfl) (by kernel_rfl) (fun _ _ _ h=>h) (Or.inl ⟨by kernel_rfl,?_⟩) ((fun b _ hb=>(y0).block b hb)) ?_
     ·intro w hSw;obtain ⟨⟨e0,e1,e2⟩,e3,e4,e5⟩:=HQ.out w hSw;go_simp<;>first|omega|(intro hh;exfalso;omega)|rfl
     try simp only[Act.put,List.setIfInBounds_toArray,List.set_cons_zero,List.set_cons_succ,vva21_2]
     refine wpAnyH_ready (rs:=[0,3]) (by kernel_rfl) (by simp) ?_
     apply AllReadyH.cons (o:=vva21_0) (by kernel_rfl)
     case h=>
      intro K hK
      simp only[vva21_0]
      have hr:=HS.out.1.keep y0
      have e0:=hr.cell 0;have e1:=hr.cell 1;have e2:=hr.cell 2
      simp at e0 e1 e2
      go_simp
      clear hr e0 e1 e2
      refine hK.out _ _ ((fun b _ hb=>(y0).block b hb)) (fun hHeld=>?_)
      clear hK K hHeld
      try simp only[Act.put,List.setIfInBounds_toArray,List.set_cons_zero,List.set_cons_succ]
      refine wpAnyH_ready (rs:=[3]) (by kernel_rfl) (by simp) ?_
      apply AllReadyH.cons (o:=vva21_3) (by kernel_rfl)
      case hs=>exact AllReadyH.nil
      intro K hK
      simp only[vva21_3]
      go_simp
      go_at_call 15
      refine (refq_Prod _ _ _ _ _ 600 600 (IP6.out.keep y0) (IQ6.out.keep y0) (by omega) (by omega)).mono ?_
      rintro e' X1 ⟨pv,rfl,hpv,b1⟩
      have y1:=below_seq y0 b1
      obtain ⟨ng7,A7,m7,c7,D7,k7,e7,rfl⟩:=hpv.shape
      refine hK.out _ _ ((fun b _ hb=>(y1).block b hb)) (fun hHeld=>?_)
      clear hK K hHeld
      try simp only[Act.put,List.setIfInBounds_toArray,List.set_cons_zero,List.set_cons_succ]
      refine wpAnyH_ready (rs:=[4]) (by kernel_rfl) (by simp) ?_
      apply AllReadyH.cons (o:=vva21_4) (by kernel_rfl)
      case hs=>exact AllReadyH.nil
      intro K hK
      simp only[vva21_4]
      go_simp
      go_at_call 14
      refine (refq_Sum _ _ _ _ _ (i*1201+1) (600+600) (HS.out.2.keep y1) hpv (by omega) (by omega)).mono ?_
      rintro e' X2 ⟨sv,rfl,hsv,b2⟩
      have y2:=below_seq y1 b2
      rw[← HD.out]at hsv
      obtain ⟨ng8,A8,m8,c8,D8,k8,e8,rfl⟩:=hsv.shape
      have HSV:=Lib.hid hsv
      clear hpv hsv b1 b2
      refine hK.out _ _ ((fun b _ hb=>(y2).block b hb)) (fun hHeld=>?_)
      clear hK K hHeld
      try simp only[Act.put,List.setIfInBounds_toArray,List.set_cons_zero,List.set_cons_succ]
      refine wpAnyH_ready (rs:=[5]) (by kernel_rfl) (by simp) ?_
      apply AllReadyH.cons (o:=vva21_5) (by kernel_rfl)
      case hs=>exact AllReadyH.nil
      intro K hK
      simp only[vva21_5]
      obtain ⟨w9'',hw9,hrow9,hb9',hO9,q0,q1,q2,f0,f1,f2⟩:=qput2 (.bool ng8) (.slice A8 m8 c8) (.slice D8 k8 e8) (HS.out.1.keep y2) (zw6.trans (y2.mono zw6.size)) (Nat.le_refl _)
      have S9:∀ b,b≠wz.heap.size→b<V6.heap.size→w9''.heap[b]?=V6.heap[b]?:=fun b hb hl=>(hO9.block b hb).trans (y2.block b hl)
      have HV9:Hid (RefVar 35 w9'' wz.heap.size (D (i+1)) ((i+1)*1201+1)):=Lib.hid ⟨_,_,_,_,_,_,_,hrow9,(HSV.out.rowq (HS.out.1.keep y2) hO9).mono (by omega)⟩
      have SV9:Hid (Row w9'' al 35 #[.bool ng6,.slice A6 m6 c6,.slice D6 k6 e6]):=Lib.hid ((S9 al (by omega) SV.out.lt).trans SV.out)
      have SI9:Hid (RefIs w9'' (.agg #[.bool ng6,.slice A6 m6 c6,.slice D6 k6 e6]) (atOf mg (i:Nat)) 1801):=Lib.hid ((SI.out.keep y2).rowq (HS.out.1.keep y2) hO9)
      have HW9:=Lib.hid hw9;have HB9:=Lib.hid hb9'
      clear hw9 hrow9 hb9' hO9
      go_simp
      rw[← HW9.out]
      clear q0 q1 q2 f0 f1 f2
      refine hK.out _ _ (S9) (fun hHeld=>?_)
      clear hK K hHeld
      try simp only[Act.put,List.setIfInBounds_toArray,List.set_cons_zero,List.set_cons_succ]
      refine wpAnyH_done (by kernel_rfl) ?_ _
      have c0:=SV9.out.cell 0;have c1:=SV9.out.cell 1;have c2:=SV9.out.cell 2
      have CZ:=Lib.hid (ref_Q_Zero w9'' _ _ _ SI9.out)
      by_cases hz0:atOf mg (i:Nat)=0
      case' pos=>
       rw[decide_eq_true hz0]at CZ
       have HN2:Hid (cnt mg (i+1)=N0):=Lib.hid (by show _=_;rw[HN1.out,if_pos hz0,Nat.add_zero])
      case' neg=>
       rw[decide_eq_false hz0]at CZ
       have HN2:Hid (cnt mg (i+1)=N0+1):=Lib.hid (by rw[HN1.out,if_neg hz0])
      all_goals
       clear hz0 S9
       go_wp2_with fail
       go_at_call 18
       refine CZ.out.mono ?_
       rintro e' wq ⟨rfl,hbq⟩
       have ZZ:=Lib.hid (below_seq HB9.out hbq)
       have HVq:=Lib.hid (HV9.out.keep hbq)
       clear c0 c1 c2 CZ
       go_wp2_with fail
       go_roundw
       case rel=>exact ⟨i+1,by go_num,by rw[HN2.out]<;>first|rfl|go_num,by omega,HVq,ZZ.out⟩
       case measure=>simp[intOf];omega
     apply AllReadyH.cons (o:=vva21_3) (by kernel_rfl)
     case h=>
      intro K hK
      simp only[vva21_3]
      go_simp
      go_at_call 15
      refine (refq_Prod _ _ _ _ _ 600 600 (IP6.out.keep y0) (IQ6.out.keep y0) (by omega) (by omega)).mono ?_
      rintro e' X1 ⟨pv,rfl,hpv,b1⟩
      have y1:=below_seq y0 b1
      obtain ⟨ng7,A7,m7,c7,D7,k7,e7,rfl⟩:=hpv.shape
      refine hK.out _ _ ((fun b _ hb=>(y1).block b hb)) (fun hHeld=>?_)
      clear hK K hHeld
      try simp only[Act.put,List.setIfInBounds_toArray,List.set_cons_zero,List.set_cons_succ]
      refine wpAnyH_ready (rs:=[0]) (by kernel_rfl) (by simp) ?_
      apply AllReadyH.cons (o:=vva21_0) (by kernel_rfl)
      case hs=>exact AllReadyH.nil
      intro K hK
      simp only[vva21_0]
      have hr:=HS.out.1.keep y1
      have e0:=hr.cell 0;have e1:=hr.cell 1;have e2:=hr.cell 2
      simp at e0 e1 e2
      go_simp
      clear hr e0 e1 e2
      refine hK.out _ _ ((fun b _ hb=>(y1).block b hb)) (fun hHeld=>?_)
      clear hK K hHeld
      try simp only[Act.put,List.setIfInBounds_toArray,List.set_cons_zero,List.set_cons_succ]
      refine wpAnyH_ready (rs:=[4]) (by kernel_rfl) (by simp) ?_
      apply AllReadyH.cons (o:=vva21_4) (by kernel_rfl)
      case hs=>exact AllReadyH.nil
      intro K hK
      simp only[vva21_4]
      go_simp
      go_at_call 14
      refine (refq_Sum _ _ _ _ _ (i*1201+1) (600+600) (HS.out.2.keep y1) hpv (by omega) (by omega)).mono ?_
      rintro e' X2 ⟨sv,rfl,hsv,b2⟩
      have y2:=below_seq y1 b2
      rw[← HD.out]at hsv
      obtain ⟨ng8,A8,m8,c8,D8,k8,e8,rfl⟩:=hsv.shape
      have HSV:=Lib.hid hsv
      clear hpv hsv b1 b2
      refine hK.out _ _ ((fun b _ hb=>(y2).block b hb)) (fun hHeld=>?_)
      clear hK K hHeld
      try simp only[Act.put,List.setIfInBounds_toArray,List.set_cons_zero,List.set_cons_succ]
      refine wpAnyH_ready (rs:=[5]) (by kernel_rfl) (by simp) ?_
      apply AllReadyH.cons (o:=vva21_5) (by kernel_rfl)
      case hs=>exact AllReadyH.nil
      intro K hK
      simp only[vva21_5]
      obtain ⟨w9'',hw9,hrow9,hb9',hO9,q0,q1,q2,f0,f1,f2⟩:=qput2 (.bool ng8) (.slice A8 m8 c8) (.slice D8 k8 e8) (HS.out.1.keep y2) (zw6.trans (y2.mono zw6.size)) (Nat.le_refl _)
      have S9:∀ b,b≠wz.heap.size→b<V6.heap.size→w9''.heap[b]?=V6.heap[b]?:=fun b hb hl=>(hO9.block b hb).trans (y2.block b hl)
      have HV9:Hid (RefVar 35 w9'' wz.heap.size (D (i+1)) ((i+1)*1201+1)):=Lib.hid ⟨_,_,_,_,_,_,_,hrow9,(HSV.out.rowq (HS.out.1.keep y2) hO9).mono (by omega)⟩
      have SV9:Hid (Row w9'' al 35 #[.bool ng6,.slice A6 m6 c6,.slice D6 k6 e6]):=Lib.hid ((S9 al (by omega) SV.out.lt).trans SV.out)
      have SI9:Hid (RefIs w9'' (.agg #[.bool ng6,.slice A6 m6 c6,.slice D6 k6 e6]) (atOf mg (i:Nat)) 1801):=Lib.hid ((SI.out.keep y2).rowq (HS.out.1.keep y2) hO9)
      have HW9:=Lib.hid hw9;have HB9:=Lib.hid hb9'
      clear hw9 hrow9 hb9' hO9
      go_simp
      rw[← HW9.out]
      clear q0 q1 q2 f0 f1 f2
      refine hK.out _ _ (S9) (fun hHeld=>?_)
      clear hK K hHeld
      try simp only[Act.put,List.setIfInBounds_toArray,List.set_cons_zero,List.set_cons_succ]
      refine wpAnyH_done (by kernel_rfl) ?_ _
      have c0:=SV9.out.cell 0;have c1:=SV9.out.cell 1;have c2:=SV9.out.cell 2
      have CZ:=Lib.hid (ref_Q_Zero w9'' _ _ _ SI9.out)
      by_cases hz0:atOf mg (i:Nat)=0
      case' pos=>
       rw[decide_eq_true hz0]at CZ
       have HN2:Hid (cnt mg (i+1)=N0):=Lib.hid (by show _=_;rw[HN1.out,if_pos hz0,Nat.add_zero])
      case' neg=>
       rw[decide_eq_false hz0]at CZ
       have HN2:Hid (cnt mg (i+1)=N0+1):=Lib.hid (by rw[HN1.out,if_neg hz0])
      all_goals
       clear hz0 S9
       go_wp2_with fail
       go_at_call 18
       refine CZ.out.mono ?_
       rintro e' wq ⟨rfl,hbq⟩
       have ZZ:=Lib.hid (below_seq HB9.out hbq)
       have HVq:=Lib.hid (HV9.out.keep hbq)
       clear c0 c1 c2 CZ
       go_wp2_with fail
       go_roundw
       case rel=>exact ⟨i+1,by go_num,by rw[HN2.out]<;>first|rfl|go_num,by omega,HVq,ZZ.out⟩
       case measure=>simp[intOf];omega
     exact AllReadyH.nil
    apply AllReadyH.cons (o:=vva18_5) (by kernel_rfl)
    case h=>
     intro K hK
     simp only[vva18_5]
     go_simp
     obtain ⟨X4,hX4⟩:∃ X,X=X1.alloc (.cells #[.bool false,.slice none 0 0,.slice none 0 0] 35):=⟨_,rfl⟩
     rw[← hX4]
     have b4:Below X1.heap.size X1 X4:=by rw[hX4];exact (Below.refl _ _).alloc (Nat.le_refl _) _
     have RW4:=Lib.hid (show Row X4 X1.heap.size 35 #[.bool false,.slice none 0 0,.slice none 0 0] by rw[hX4];exact Row.new _ _ _)
     have y4:=below_seq y1 b4
     have hge:=y1.size
     clear hX4
     have PR_2:=Lib.hid (PR1.out.keep b4)
     refine hK.out _ _ (y4) (fun hHeld=>?_)
     clear hK K hHeld
     try simp only[Act.put,List.setIfInBounds_toArray,List.set_cons_zero,List.set_cons_succ]
     refine wpAnyH_ready (rs:=[4]) (by kernel_rfl) (by simp) ?_
     apply AllReadyH.cons (o:=vva18_4) (by kernel_rfl)
     case hs=>exact AllReadyH.nil
     intro K hK
     simp only[vva18_4]
     go_simp
     go_at_call 14
     refine (refq_Sum _ _ _ _ _ 600 (600+600) (IP.out.keep y4) PR_2.out (by omega) (by omega)).mono ?_
     rintro e' X5 ⟨sv,rfl,hsv,b5⟩
     have y5:=below_seq y4 b5
     rw[← MA.out]at hsv
     obtain ⟨ng5,A5,m5,c5,D5,k5,e5,rfl⟩:=hsv.shape
     have PR_3:=Lib.hid (PR_2.out.keep b5)
     have RW_3:=Lib.hid (RW4.out.keep b5)
     have SM5:=Lib.hid hsv
     clear hsv
     refine hK.out _ _ (y5) (fun hHeld=>?_)
     clear hK K hHeld
     try simp only[Act.put,List.setIfInBounds_toArray,List.set_cons_zero,List.set_cons_succ]
     refine wpAnyH_ready (rs:=[6]) (by kernel_rfl) (by simp) ?_
     apply AllReadyH.cons (o:=vva18_6) (by kernel_rfl)
     case hs=>exact AllReadyH.nil
     intro K hK
     simp only[vva18_6]
     obtain ⟨w9',hw9,hrow9,hb9,hO9,q0,q1,q2,f0,f1,f2⟩:=qput2 (.bool ng5) (.slice A5 m5 c5) (.slice D5 k5 e5) RW_3.out y5 hge
     have S9:Hid (RefVar 35 w9' X1.heap.size (atOf mg (i:Nat)) 1801):=Lib.hid ⟨_,_,_,_,_,_,_,hrow9,((SM5.out.rowq RW_3.out hO9).mono (by omega))⟩
     have HW9:=Lib.hid hw9
     clear hw9 hrow9 hO9
     go_simp
     rw[← HW9.out]
     clear q0 q1 q2 f0 f1 f2
     refine hK.out _ _ (hb9) (fun hHeld=>?_)
     clear hK K hHeld
     try simp only[Act.put,List.setIfInBounds_toArray,List.set_cons_zero,List.set_cons_succ]
     refine wpAnyH_done (by kernel_rfl) ?_ _
     obtain ⟨al,hal⟩:∃ al,al=X1.heap.size:=⟨_,rfl⟩
     rw[← hal]at S9 hge ⊢
     have y18:=hb9
     clear hal
     obtain ⟨ng6,A6,m6,c6,D6,k6,e6,hRs,hIs⟩:=S9.out
     have KS:Hid (∀ X:World,Below w9'.heap.size w9' X→(X.cell? ⟨u2.heap.size,0,none⟩=some (.bool ng1)∧X.cell? ⟨u2.heap.size,1,none⟩=some (.slice A1' m1' c1')∧X.cell? ⟨u2.heap.size,2,none⟩=some (.slice D1 k1 e1))∧X.cell? ⟨al,0,none⟩=some (.bool ng6)∧X.cell? ⟨al,1,none⟩=some (.slice A6 m6 c6)∧X.cell? ⟨al,2,none⟩=some (.slice D6 k6 e6)):=Lib.hid fun X h=>by
      have p1:=(KC.out X (below_seq y18 h)).1
      have p2:=Row.keep hRs h
      exact ⟨p1,p2.cell 0,p2.cell 1,p2.cell 2⟩
     have RS:=Lib.hid hRs;have IS:=Lib.hid hIs
     have xs9:=below_seq xv y18
     have CV1:Hid (∀ X,Below w9'.heap.size w9' X→Calls Tryz.prog 16 #[.pointer (some ⟨ba,0,none⟩),.int .i64 i] X (Gives (fun z w'=>FracPtr w' z (atC ca (i:Nat))) X)):=Lib.hid fun X h=>by
      rw[← PEA.out]
      exact vec_At X _ pa (.inr (KVA.out X (below_seq xs9 h))) (by omega) i
     have CV2:Hid (∀ X,Below w9'.heap.size w9' X→Calls Tryz.prog 16 #[.pointer bs,.int .i64 i] X (Gives (fun z w'=>FracPtr w' z (atOf mg (i:Nat))) X)):=Lib.hid fun X h=>vec_At X _ mg (.inr (KVS.out X (below_seq xs9 h))) (by omega) i
     have fa:Fits 2000 (atC ca (i:Nat)):=by rw[← PEA.out];exact atOf_fits (by omega) FA.out _
     have fs:Fits 1000000 (atOf mg (i:Nat)):=atOf_fits (by omega) FS.out _
     obtain ⟨TA,hTA⟩:∃ T:ByteArray,T=⟨(fracText (atC ca (i:Nat))).toArray⟩:=⟨_,rfl⟩
     obtain ⟨TS,hTS⟩:∃ T:ByteArray,T=⟨(fracText (atOf mg (i:Nat))).toArray⟩:=⟨_,rfl⟩
     have CX1:Hid (∀ X v,Below w9'.heap.size w9' X→FracPtr X v (atC ca (i:Nat))→Calls Tryz.prog 10 #[v] X (Keeps (.string TA) X)):=Lib.hid fun X v h hv=>by rw[hTA];exact frac_Text X v _ hv.at_ (fa.mono (by omega)) (HT.out.keep (KW.out X (below_seq xs9 h)))
     have CX2:Hid (∀ X v,Below w9'.heap.size w9' X→FracPtr X v (atOf mg (i:Nat))→Calls Tryz.prog 10 #[v] X (Keeps (.string TS) X)):=Lib.hid fun X v h hv=>by rw[hTS];exact frac_Text X v _ hv.at_ (fs.mono (by omega)) (HT.out.keep (KW.out X (below_seq xs9 h)))
     have CQ1:Hid (∀ X,Below w9'.heap.size w9' X→Calls Tryz.prog 17 #[.agg #[.bool ng1,.slice A1' m1' c1',.slice D1 k1 e1]] X (Keeps (.string TA) X)):=Lib.hid fun X h=>by rw[hTA];exact refq_Text X _ _ _ (IP.out.keep (below_seq y18 h)) (by omega)
     have CQ2:Hid (∀ X,Below w9'.heap.size w9' X→Calls Tryz.prog 17 #[.agg #[.bool ng6,.slice A6 m6 c6,.slice D6 k6 e6]] X (Keeps (.string TS) X)):=Lib.hid fun X h=>by rw[hTS];exact refq_Text X _ _ _ (IS.out.keep h) (by omega)
     clear hRs hIs fa fs hTA hTS S9
     go_upto_region 19 with fail
     refine wp_region_held (S:=fun X:World=>Below w9'.heap.size w9' X) (by kernel_rfl) ?_
     change wpAnyH _ _ _ _ _ _ _ _ (World.drew _)
     obtain ⟨V0,hV0⟩:∃ X,X=(w9').drew:=⟨_,rfl⟩
     rw[← hV0]
     have t0:Below (w9').heap.size (w9') V0:=by rw[hV0];exact Below.drewN_ (Below.refl _ _) 1
     clear hV0
     refine wpAnyH_take (i:=0) (oi:=vva19_0) (v:=.pointer (some ⟨ba,0,none⟩)) rfl (by kernel_rfl) (by kernel_rfl) (by kernel_rfl) (fun _ _ _ h=>h) (Or.inl ⟨by kernel_rfl,?_⟩) (t0) ?_
     ·intro w hSw;go_simp<;>first|omega|(intro hh;exfalso;omega)|rfl|simp
     try simp only[Act.put,List.setIfInBounds_toArray,List.set_cons_zero,List.set_cons_succ,vva19_0]
     refine wpAnyH_take (i:=1) (oi:=vva19_1) (v:=.int .i64 i) rfl (by kernel_rfl) (by kernel_rfl) (by kernel_rfl) (fun _ _ _ h=>h) (Or.inl ⟨by kernel_rfl,?_⟩) (t0) ?_
     ·intro w hSw;go_simp<;>first|omega|(intro hh;exfalso;omega)|rfl|simp
     try simp only[Act.put,List.setIfInBounds_toArray,List.set_cons_zero,List.set_cons_succ,vva19_1]
     refine wpAnyH_take (i:=4) (oi:=vva19_4) (v:=.agg #[.bool ng1,.slice A1' m1' c1',.slice D1 k1 e1]) rfl (by kernel_rfl) (by kernel_rfl) (by kernel_rfl) (fun _ _ _ h=>h) (Or.inl ⟨by kernel_rfl,?_⟩) (t0) ?_
     ·intro w hSw;obtain ⟨⟨e0,e1,e2⟩,e3,e4,e5⟩:=KS.out w hSw;go_simp<;>first|omega|(intro hh;exfalso;omega)|rfl|simp
     try simp only[Act.put,List.setIfInBounds_toArray,List.set_cons_zero,List.set_cons_succ,vva19_4]
     refine wpAnyH_ready (rs:=[2]) (by kernel_rfl) (by simp) ?_
     apply AllReadyH.cons (o:=vva19_2) (by kernel_rfl)
     case hs=>exact AllReadyH.nil
     intro K hK
     simp only[vva19_2]
     go_simp
     go_at_call 16
     refine (CV1.out _ t0).mono ?_
     rintro e' V1 ⟨v1,rfl,hv1,d1⟩
     have t1:=below_seq t0 d1
     have HV1:=Lib.hid hv1
     obtain ⟨p1,rfl⟩:=hv1.ptr
     clear hv1
     refine hK.out _ _ (t1) (fun hHeld=>?_)
     clear hK K hHeld
     try simp only[Act.put,List.setIfInBounds_toArray,List.set_cons_zero,List.set_cons_succ]
     refine wpAnyH_ready (rs:=[3]) (by kernel_rfl) (by simp) ?_
     apply AllReadyH.cons (o:=vva19_3) (by kernel_rfl)
     case hs=>exact AllReadyH.nil
     intro K hK
     simp only[vva19_3]
     go_simp
     go_at_call 10
     refine (CX1.out _ _ t1 HV1.out).mono ?_
     rintro e' V2 ⟨rfl,d2⟩
     have t2:=below_seq t1 d2
     refine hK.out _ _ (t2) (fun hHeld=>?_)
     clear hK K hHeld
     try simp only[Act.put,List.setIfInBounds_toArray,List.set_cons_zero,List.set_cons_succ]
     refine wpAnyH_ready (rs:=[5]) (by kernel_rfl) (by simp) ?_
     apply AllReadyH.cons (o:=vva19_5) (by kernel_rfl)
     case hs=>exact AllReadyH.nil
     intro K hK
     simp only[vva19_5]
     go_simp
     go_at_call 17
     refine (CQ1.out _ t2).mono ?_
     rintro e' V3 ⟨rfl,d3⟩
     have t3:=below_seq t2 d3
     refine hK.out _ _ (t3) (fun hHeld=>?_)
     clear hK K hHeld
     try simp only[Act.put,List.setIfInBounds_toArray,List.set_cons_zero,List.set_cons_succ]
     refine wpAnyH_take (i:=6) (oi:=vva19_6) (v:=.bool false) rfl (by kernel_rfl) (by kernel_rfl) (by kernel_rfl) (fun _ _ _ h=>h) (Or.inl ⟨by kernel_rfl,?_⟩) (t3) ?_
     ·intro w hSw;go_simp<;>first|omega|(intro hh;exfalso;omega)|rfl|simp
     try simp only[Act.put,List.setIfInBounds_toArray,List.set_cons_zero,List.set_cons_succ,vva19_6]
     refine wpAnyH_take (i:=7) (oi:=vva19_7) (v:=.bool false) rfl (by kernel_rfl) (by kernel_rfl) (by kernel_rfl) (fun _ _ _ h=>h) (Or.inl ⟨by kernel_rfl,?_⟩) (t3) ?_
     ·intro w hSw;go_simp<;>first|omega|(intro hh;exfalso;omega)|rfl|simp
     try simp only[Act.put,List.setIfInBounds_toArray,List.set_cons_zero,List.set_cons_succ,vva19_7]
     refine wpAnyH_take (i:=8) (oi:=vva19_8) (v:=.pointer bs) rfl (by kernel_rfl) (by kernel_rfl) (by kernel_rfl) (fun _ _ _ h=>h) (Or.inl ⟨by kernel_rfl,?_⟩) (t3) ?_
     ·intro w hSw;go_simp<;>first|omega|(intro hh;exfalso;omega)|rfl|simp
     try simp only[Act.put,List.setIfInBounds_toArray,List.set_cons_zero,List.set_cons_succ,vva19_8]
     refine wpAnyH_take (i:=9) (oi:=vva19_9) (v:=.int .i64 i) rfl (by kernel_rfl) (by kernel_rfl) (by kernel_rfl) (fun _ _ _ h=>h) (Or.inl ⟨by kernel_rfl,?_⟩) (t3) ?_
     ·intro w hSw;go_simp<;>first|omega|(intro hh;exfalso;omega)|rfl|simp
     try simp only[Act.put,List.setIfInBounds_toArray,List.set_cons_zero,List.set_cons_succ,vva19_9]
     refine wpAnyH_take (i:=12) (oi:=vva19_12) (v:=.agg #[.bool ng6,.slice A6 m6 c6,.slice D6 k6 e6]) rfl (by kernel_rfl) (by kernel_rfl) (by kernel_rfl) (fun _ _ _ h=>h) (Or.inl ⟨by kernel_rfl,?_⟩) (t3) ?_
     ·intro w hSw;obtain ⟨⟨e0,e1,e2⟩,e3,e4,e5⟩:=KS.out w hSw;go_simp<;>first|omega|(intro hh;exfalso;omega)|rfl|simp
     try simp only[Act.put,List.setIfInBounds_toArray,List.set_cons_zero,List.set_cons_succ,vva19_12]
     refine wpAnyH_ready (rs:=[10]) (by kernel_rfl) (by simp) ?_
     apply AllReadyH.cons (o:=vva19_10) (by kernel_rfl)
     case hs=>exact AllReadyH.nil
     intro K hK
     simp only[vva19_10]
     go_simp
     go_at_call 16
     refine (CV2.out _ t3).mono ?_
     rintro e' V4 ⟨v4,rfl,hv4,d4⟩
     have t4:=below_seq t3 d4
     have HV4:=Lib.hid hv4
     obtain ⟨p4,rfl⟩:=hv4.ptr
     clear hv4
     refine hK.out _ _ (t4) (fun hHeld=>?_)
     clear hK K hHeld
     try simp only[Act.put,List.setIfInBounds_toArray,List.set_cons_zero,List.set_cons_succ]
     refine wpAnyH_ready (rs:=[11]) (by kernel_rfl) (by simp) ?_
     apply AllReadyH.cons (o:=vva19_11) (by kernel_rfl)
     case hs=>exact AllReadyH.nil
     intro K hK
     simp only[vva19_11]
     go_simp
     go_at_call 10
     refine (CX2.out _ _ t4 HV4.out).mono ?_
     rintro e' V5 ⟨rfl,d5⟩
     have t5:=below_seq t4 d5
     refine hK.out _ _ (t5) (fun hHeld=>?_)
     clear hK K hHeld
     try simp only[Act.put,List.setIfInBounds_toArray,List.set_cons_zero,List.set_cons_succ]
     refine wpAnyH_ready (rs:=[13]) (by kernel_rfl) (by simp) ?_
     apply AllReadyH.cons (o:=vva19_13) (by kernel_rfl)
     case hs=>exact AllReadyH.nil
     intro K hK
     simp only[vva19_13]
     go_simp
     go_at_call 17
     refine (CQ2.out _ t5).mono ?_
     rintro e' V6 ⟨rfl,d6⟩
     have t6:=below_seq t5 d6
     refine hK.out _ _ (t6) (fun hHeld=>?_)
     clear hK K hHeld
     try simp only[Act.put,List.setIfInBounds_toArray,List.set_cons_zero,List.set_cons_succ]
     refine wpAnyH_take (i:=14) (oi:=vva19_14) (v:=.bool false) rfl (by kernel_rfl) (by kernel_rfl) (by kernel_rfl) (fun _ _ _ h=>h) (Or.inl ⟨by kernel_rfl,?_⟩) (t6) ?_
     ·intro w hSw;go_simp<;>first|omega|(intro hh;exfalso;omega)|rfl|simp
     try simp only[Act.put,List.setIfInBounds_toArray,List.set_cons_zero,List.set_cons_succ,vva19_14]
     refine wpAnyH_take (i:=15) (oi:=vva19_15) (v:=.bool false) rfl (by kernel_rfl) (by kernel_rfl) (by kernel_rfl) (fun _ _ _ h=>h) (Or.inl ⟨by kernel_rfl,?_⟩) (t6) ?_
     ·intro w hSw;go_simp<;>first|omega|(intro hh;exfalso;omega)|rfl|simp
     try simp only[Act.put,List.setIfInBounds_toArray,List.set_cons_zero,List.set_cons_succ,vva19_15]
     refine wpAnyH_done (by kernel_rfl) ?_ _
     obtain ⟨ww,hww⟩:∃ X,X=V6:=⟨_,rfl⟩
     have yw:Below wv.heap.size wv V6:=below_seq y18 t6
     have SV:=Lib.hid (RS.out.keep t6);have SI:=Lib.hid (IS.out.keep t6)
     obtain ⟨ng3,A3x,m3x,c3x,D3x,k3x,e3x,hR3,hI3⟩:=VAR.out.keep yw
     have HS:Hid (Row V6 wz.heap.size 35 #[.bool ng3,.slice A3x m3x c3x,.slice D3x k3x e3x]∧RefIs V6 (.agg #[.bool ng3,.slice A3x m3x c3x,.slice D3x k3x e3x]) (D i) (i*1201+1)):=Lib.hid ⟨hR3,hI3⟩
     have IP6:=Lib.hid (IP.out.keep yw);have IQ6:=Lib.hid (IQ.out.keep yw)
     have RP6:=Lib.hid (RP.out.keep yw);have RQ6:=Lib.hid (RQ.out.keep yw)
     have zw6:=below_seq xv yw
     have hal:wz.heap.size<al:=by omega
     have HQ:Hid (∀ X:World,(∀ b,b≠wz.heap.size→b<V6.heap.size→X.heap[b]?=V6.heap[b]?)→(X.cell? ⟨u2.heap.size,0,none⟩=some (.bool ng1)∧X.cell? ⟨u2.heap.size,1,none⟩=some (.slice A1' m1' c1')∧X.cell? ⟨u2.heap.size,2,none⟩=some (.slice D1 k1 e1))∧(X.cell? ⟨u2.heap.size+1,0,none⟩=some (.bool ng2)∧X.cell? ⟨u2.heap.size+1,1,none⟩=some (.slice A2x m2x c2x)∧X.cell? ⟨u2.heap.size+1,2,none⟩=some (.slice D2 k2 e2))):=Lib.hid fun X h=>by
      have p1:Row X u2.heap.size 35 #[.bool ng1,.slice A1' m1' c1',.slice D1 k1 e1]:=(h _ (by omega) RP6.out.lt).trans RP6.out
      have p2:Row X (u2.heap.size+1) 35 #[.bool ng2,.slice A2x m2x c2x,.slice D2 k2 e2]:=(h _ (by omega) RQ6.out.lt).trans RQ6.out
      exact ⟨⟨p1.cell 0,p1.cell 1,p1.cell 2⟩,p2.cell 0,p2.cell 1,p2.cell 2⟩
     clear hR3 hI3 VAR
     go_upto_region 21 with fail
     refine wp_region_held (S:=fun X:World=>∀ b,b≠wz.heap.size→b<V6.heap.size→X.heap[b]?=V6.heap[b]?) (by kernel_rfl) ?_
     change wpAnyH _ _ _ _ _ _ _ _ (World.drew _)
     obtain ⟨X0,hX0⟩:∃ X,X=(V6).drew:=⟨_,rfl⟩
     rw[← hX0]
     have y0:Below (V6).heap.size (V6) X0:=by rw[hX0];exact Below.drewN_ (Below.refl _ _) 1
     clear hX0
     refine wpAnyH_take (i:=1) (oi:=vva21_1) (v:=.agg #[.bool ng1,.slice A1' m1' c1',.slice D1 k1 e1]) rfl (by kernel_rfl) (by kernel_rfl) (by kernel_rfl) (fun _ _ _ h=>h) (Or.inl ⟨by kernel_rfl,?_⟩) ((fun b _ hb=>(y0).block b hb)) ?_
     ·intro w hSw;obtain ⟨⟨e0,e1,e2⟩,e3,e4,e5⟩:=HQ.out w hSw;go_simp<;>first|omega|(intro hh;exfalso;omega)|rfl
     try simp only[Act.put,List.setIfInBounds_toArray,List.set_cons_zero,List.set_cons_succ,vva21_1]
     refine wpAnyH_take (i:=2) (oi:=vva21_2) (v:=.agg #[.bool ng2,.slice A2x m2x c2x,.slice D2 k2 e2]) rfl (by kernel_rfl) (by kernel_rfl) (by kernel_rfl) (fun _ _ _ h=>h) (Or.inl ⟨by kernel_rfl,?_⟩) ((fun b _ hb=>(y0).block b hb)) ?_
     ·intro w hSw;obtain ⟨⟨e0,e1,e2⟩,e3,e4,e5⟩:=HQ.out w hSw;go_simp<;>first|omega|(intro hh;exfalso;omega)|rfl
     try simp only[Act.put,List.setIfInBounds_toArray,List.set_cons_zero,List.set_cons_succ,vva21_2]
     refine wpAnyH_ready (rs:=[0,3]) (by kernel_rfl) (by simp) ?_
     apply AllReadyH.cons (o:=vva21_0) (by kernel_rfl)
     case h=>
      intro K hK
      simp only[vva21_0]
      have hr:=HS.out.1.keep y0
      have e0:=hr.cell 0;have e1:=hr.cell 1;have e2:=hr.cell 2
      simp at e0 e1 e2
      go_simp
      clear hr e0 e1 e2
      refine hK.out _ _ ((fun b _ hb=>(y0).block b hb)) (fun hHeld=>?_)
      clear hK K hHeld
      try simp only[Act.put,List.setIfInBounds_toArray,List.set_cons_zero,List.set_cons_succ]
      refine wpAnyH_ready (rs:=[3]) (by kernel_rfl) (by simp) ?_
      apply AllReadyH.cons (o:=vva21_3) (by kernel_rfl)
      case hs=>exact AllReadyH.nil
      intro K hK
      simp only[vva21_3]
      go_simp
      go_at_call 15
      refine (refq_Prod _ _ _ _ _ 600 600 (IP6.out.keep y0) (IQ6.out.keep y0) (by omega) (by omega)).mono ?_
      rintro e' X1 ⟨pv,rfl,hpv,b1⟩
      have y1:=below_seq y0 b1
      obtain ⟨ng7,A7,m7,c7,D7,k7,e7,rfl⟩:=hpv.shape
      refine hK.out _ _ ((fun b _ hb=>(y1).block b hb)) (fun hHeld=>?_)
      clear hK K hHeld
      try simp only[Act.put,List.setIfInBounds_toArray,List.set_cons_zero,List.set_cons_succ]
      refine wpAnyH_ready (rs:=[4]) (by kernel_rfl) (by simp) ?_
      apply AllReadyH.cons (o:=vva21_4) (by kernel_rfl)
      case hs=>exact AllReadyH.nil
      intro K hK
      simp only[vva21_4]
      go_simp
      go_at_call 14
      refine (refq_Sum _ _ _ _ _ (i*1201+1) (600+600) (HS.out.2.keep y1) hpv (by omega) (by omega)).mono ?_
      rintro e' X2 ⟨sv,rfl,hsv,b2⟩
      have y2:=below_seq y1 b2
      rw[← HD.out]at hsv
      obtain ⟨ng8,A8,m8,c8,D8,k8,e8,rfl⟩:=hsv.shape
      have HSV:=Lib.hid hsv
      clear hpv hsv b1 b2
      refine hK.out _ _ ((fun b _ hb=>(y2).block b hb)) (fun hHeld=>?_)
      clear hK K hHeld
      try simp only[Act.put,List.setIfInBounds_toArray,List.set_cons_zero,List.set_cons_succ]
      refine wpAnyH_ready (rs:=[5]) (by kernel_rfl) (by simp) ?_
      apply AllReadyH.cons (o:=vva21_5) (by kernel_rfl)
      case hs=>exact AllReadyH.nil
      intro K hK
      simp only[vva21_5]
      obtain ⟨w9'',hw9,hrow9,hb9',hO9,q0,q1,q2,f0,f1,f2⟩:=qput2 (.bool ng8) (.slice A8 m8 c8) (.slice D8 k8 e8) (HS.out.1.keep y2) (zw6.trans (y2.mono zw6.size)) (Nat.le_refl _)
      have S9:∀ b,b≠wz.heap.size→b<V6.heap.size→w9''.heap[b]?=V6.heap[b]?:=fun b hb hl=>(hO9.block b hb).trans (y2.block b hl)
      have HV9:Hid (RefVar 35 w9'' wz.heap.size (D (i+1)) ((i+1)*1201+1)):=Lib.hid ⟨_,_,_,_,_,_,_,hrow9,(HSV.out.rowq (HS.out.1.keep y2) hO9).mono (by omega)⟩
      have SV9:Hid (Row w9'' al 35 #[.bool ng6,.slice A6 m6 c6,.slice D6 k6 e6]):=Lib.hid ((S9 al (by omega) SV.out.lt).trans SV.out)
      have SI9:Hid (RefIs w9'' (.agg #[.bool ng6,.slice A6 m6 c6,.slice D6 k6 e6]) (atOf mg (i:Nat)) 1801):=Lib.hid ((SI.out.keep y2).rowq (HS.out.1.keep y2) hO9)
      have HW9:=Lib.hid hw9;have HB9:=Lib.hid hb9'
      clear hw9 hrow9 hb9' hO9
      go_simp
      rw[← HW9.out]
      clear q0 q1 q2 f0 f1 f2
      refine hK.out _ _ (S9) (fun hHeld=>?_)
      clear hK K hHeld
      try simp only[Act.put,List.setIfInBounds_toArray,List.set_cons_zero,List.set_cons_succ]
      refine wpAnyH_done (by kernel_rfl) ?_ _
      have c0:=SV9.out.cell 0;have c1:=SV9.out.cell 1;have c2:=SV9.out.cell 2
      have CZ:=Lib.hid (ref_Q_Zero w9'' _ _ _ SI9.out)
      by_cases hz0:atOf mg (i:Nat)=0
      case' pos=>
       rw[decide_eq_true hz0]at CZ
       have HN2:Hid (cnt mg (i+1)=N0):=Lib.hid (by show _=_;rw[HN1.out,if_pos hz0,Nat.add_zero])
      case' neg=>
       rw[decide_eq_false hz0]at CZ
       have HN2:Hid (cnt mg (i+1)=N0+1):=Lib.hid (by rw[HN1.out,if_neg hz0])
      all_goals
       clear hz0 S9
       go_wp2_with fail
       go_at_call 18
       refine CZ.out.mono ?_
       rintro e' wq ⟨rfl,hbq⟩
       have ZZ:=Lib.hid (below_seq HB9.out hbq)
       have HVq:=Lib.hid (HV9.out.keep hbq)
       clear c0 c1 c2 CZ
       go_wp2_with fail
       go_roundw
       case rel=>exact ⟨i+1,by go_num,by rw[HN2.out]<;>first|rfl|go_num,by omega,HVq,ZZ.out⟩
       case measure=>simp[intOf];omega
     apply AllReadyH.cons (o:=vva21_3) (by kernel_rfl)
     case h=>
      intro K hK
      simp only[vva21_3]
      go_simp
      go_at_call 15
      refine (refq_Prod _ _ _ _ _ 600 600 (IP6.out.keep y0) (IQ6.out.keep y0) (by omega) (by omega)).mono ?_
      rintro e' X1 ⟨pv,rfl,hpv,b1⟩
      have y1:=below_seq y0 b1
      obtain ⟨ng7,A7,m7,c7,D7,k7,e7,rfl⟩:=hpv.shape
      refine hK.out _ _ ((fun b _ hb=>(y1).block b hb)) (fun hHeld=>?_)
      clear hK K hHeld
      try simp only[Act.put,List.setIfInBounds_toArray,List.set_cons_zero,List.set_cons_succ]
      refine wpAnyH_ready (rs:=[0]) (by kernel_rfl) (by simp) ?_
      apply AllReadyH.cons (o:=vva21_0) (by kernel_rfl)
      case hs=>exact AllReadyH.nil
      intro K hK
      simp only[vva21_0]
      have hr:=HS.out.1.keep y1
      have e0:=hr.cell 0;have e1:=hr.cell 1;have e2:=hr.cell 2
      simp at e0 e1 e2
      go_simp
      clear hr e0 e1 e2
      refine hK.out _ _ ((fun b _ hb=>(y1).block b hb)) (fun hHeld=>?_)
      clear hK K hHeld
      try simp only[Act.put,List.setIfInBounds_toArray,List.set_cons_zero,List.set_cons_succ]
      refine wpAnyH_ready (rs:=[4]) (by kernel_rfl) (by simp) ?_
      apply AllReadyH.cons (o:=vva21_4) (by kernel_rfl)
      case hs=>exact AllReadyH.nil
      intro K hK
      simp only[vva21_4]
      go_simp
      go_at_call 14
      refine (refq_Sum _ _ _ _ _ (i*1201+1) (600+600) (HS.out.2.keep y1) hpv (by omega) (by omega)).mono ?_
      rintro e' X2 ⟨sv,rfl,hsv,b2⟩
      have y2:=below_seq y1 b2
      rw[← HD.out]at hsv
      obtain ⟨ng8,A8,m8,c8,D8,k8,e8,rfl⟩:=hsv.shape
      have HSV:=Lib.hid hsv
      clear hpv hsv b1 b2
      refine hK.out _ _ ((fun b _ hb=>(y2).block b hb)) (fun hHeld=>?_)
      clear hK K hHeld
      try simp only[Act.put,List.setIfInBounds_toArray,List.set_cons_zero,List.set_cons_succ]
      refine wpAnyH_ready (rs:=[5]) (by kernel_rfl) (by simp) ?_
      apply AllReadyH.cons (o:=vva21_5) (by kernel_rfl)
      case hs=>exact AllReadyH.nil
      intro K hK
      simp only[vva21_5]
      obtain ⟨w9'',hw9,hrow9,hb9',hO9,q0,q1,q2,f0,f1,f2⟩:=qput2 (.bool ng8) (.slice A8 m8 c8) (.slice D8 k8 e8) (HS.out.1.keep y2) (zw6.trans (y2.mono zw6.size)) (Nat.le_refl _)
      have S9:∀ b,b≠wz.heap.size→b<V6.heap.size→w9''.heap[b]?=V6.heap[b]?:=fun b hb hl=>(hO9.block b hb).trans (y2.block b hl)
      have HV9:Hid (RefVar 35 w9'' wz.heap.size (D (i+1)) ((i+1)*1201+1)):=Lib.hid ⟨_,_,_,_,_,_,_,hrow9,(HSV.out.rowq (HS.out.1.keep y2) hO9).mono (by omega)⟩
      have SV9:Hid (Row w9'' al 35 #[.bool ng6,.slice A6 m6 c6,.slice D6 k6 e6]):=Lib.hid ((S9 al (by omega) SV.out.lt).trans SV.out)
      have SI9:Hid (RefIs w9'' (.agg #[.bool ng6,.slice A6 m6 c6,.slice D6 k6 e6]) (atOf mg (i:Nat)) 1801):=Lib.hid ((SI.out.keep y2).rowq (HS.out.1.keep y2) hO9)
      have HW9:=Lib.hid hw9;have HB9:=Lib.hid hb9'
      clear hw9 hrow9 hb9' hO9
      go_simp
      rw[← HW9.out]
      clear q0 q1 q2 f0 f1 f2
      refine hK.out _ _ (S9) (fun hHeld=>?_)
      clear hK K hHeld
      try simp only[Act.put,List.setIfInBounds_toArray,List.set_cons_zero,List.set_cons_succ]
      refine wpAnyH_done (by kernel_rfl) ?_ _
      have c0:=SV9.out.cell 0;have c1:=SV9.out.cell 1;have c2:=SV9.out.cell 2
      have CZ:=Lib.hid (ref_Q_Zero w9'' _ _ _ SI9.out)
      by_cases hz0:atOf mg (i:Nat)=0
      case' pos=>
       rw[decide_eq_true hz0]at CZ
       have HN2:Hid (cnt mg (i+1)=N0):=Lib.hid (by show _=_;rw[HN1.out,if_pos hz0,Nat.add_zero])
      case' neg=>
       rw[decide_eq_false hz0]at CZ
       have HN2:Hid (cnt mg (i+1)=N0+1):=Lib.hid (by rw[HN1.out,if_neg hz0])
      all_goals
       clear hz0 S9
       go_wp2_with fail
       go_at_call 18
       refine CZ.out.mono ?_
       rintro e' wq ⟨rfl,hbq⟩
       have ZZ:=Lib.hid (below_seq HB9.out hbq)
       have HVq:=Lib.hid (HV9.out.keep hbq)
       clear c0 c1 c2 CZ
       go_wp2_with fail
       go_roundw
       case rel=>exact ⟨i+1,by go_num,by rw[HN2.out]<;>first|rfl|go_num,by omega,HVq,ZZ.out⟩
       case measure=>simp[intOf];omega
     exact AllReadyH.nil
    exact AllReadyH.nil
   apply AllReadyH.cons (o:=vva18_5) (by kernel_rfl)
   case h=>
    intro K hK
    simp only[vva18_5]
    go_simp
    obtain ⟨X6,hX6⟩:∃ X,X=X0.alloc (.cells #[.bool false,.slice none 0 0,.slice none 0 0] 35):=⟨_,rfl⟩
    rw[← hX6]
    have b6:Below X0.heap.size X0 X6:=by rw[hX6];exact (Below.refl _ _).alloc (Nat.le_refl _) _
    have RW6:=Lib.hid (show Row X6 X0.heap.size 35 #[.bool false,.slice none 0 0,.slice none 0 0] by rw[hX6];exact Row.new _ _ _)
    have y6:=below_seq y0 b6
    have hge:=y0.size
    clear hX6
    refine hK.out _ _ (y6) (fun hHeld=>?_)
    clear hK K hHeld
    try simp only[Act.put,List.setIfInBounds_toArray,List.set_cons_zero,List.set_cons_succ]
    refine wpAnyH_ready (rs:=[3]) (by kernel_rfl) (by simp) ?_
    apply AllReadyH.cons (o:=vva18_3) (by kernel_rfl)
    case hs=>exact AllReadyH.nil
    intro K hK
    simp only[vva18_3]
    go_simp
    go_at_call 15
    refine (refq_Prod _ _ _ f (atC cb (i:Nat)) 600 600 (HX0.out.2.keep y6) (IQ.out.keep y6) (by omega) (by omega)).mono ?_
    rintro e' X7 ⟨pv,rfl,hpv,b7⟩
    have y7:=below_seq y6 b7
    obtain ⟨ng4,A4,m4,c4,D4,k4,e4,rfl⟩:=hpv.shape
    have RW_2:=Lib.hid (RW6.out.keep b7)
    have PR7:=Lib.hid hpv
    clear hpv
    refine hK.out _ _ (y7) (fun hHeld=>?_)
    clear hK K hHeld
    try simp only[Act.put,List.setIfInBounds_toArray,List.set_cons_zero,List.set_cons_succ]
    refine wpAnyH_ready (rs:=[4]) (by kernel_rfl) (by simp) ?_
    apply AllReadyH.cons (o:=vva18_4) (by kernel_rfl)
    case hs=>exact AllReadyH.nil
    intro K hK
    simp only[vva18_4]
    go_simp
    go_at_call 14
    refine (refq_Sum _ _ _ _ _ 600 (600+600) (IP.out.keep y7) PR7.out (by omega) (by omega)).mono ?_
    rintro e' X8 ⟨sv,rfl,hsv,b8⟩
    have y8:=below_seq y7 b8
    rw[← MA.out]at hsv
    obtain ⟨ng5,A5,m5,c5,D5,k5,e5,rfl⟩:=hsv.shape
    have RW_3:=Lib.hid (RW_2.out.keep b8)
    have PR_3:=Lib.hid (PR7.out.keep b8)
    have SM8:=Lib.hid hsv
    clear hsv
    refine hK.out _ _ (y8) (fun hHeld=>?_)
    clear hK K hHeld
    try simp only[Act.put,List.setIfInBounds_toArray,List.set_cons_zero,List.set_cons_succ]
    refine wpAnyH_ready (rs:=[6]) (by kernel_rfl) (by simp) ?_
    apply AllReadyH.cons (o:=vva18_6) (by kernel_rfl)
    case hs=>exact AllReadyH.nil
    intro K hK
    simp only[vva18_6]
    obtain ⟨w9',hw9,hrow9,hb9,hO9,q0,q1,q2,f0,f1,f2⟩:=qput2 (.bool ng5) (.slice A5 m5 c5) (.slice D5 k5 e5) RW_3.out y8 hge
    have S9:Hid (RefVar 35 w9' X0.heap.size (atOf mg (i:Nat)) 1801):=Lib.hid ⟨_,_,_,_,_,_,_,hrow9,((SM8.out.rowq RW_3.out hO9).mono (by omega))⟩
    have HW9:=Lib.hid hw9
    clear hw9 hrow9 hO9
    go_simp
    rw[← HW9.out]
    clear q0 q1 q2 f0 f1 f2
    refine hK.out _ _ (hb9) (fun hHeld=>?_)
    clear hK K hHeld
    try simp only[Act.put,List.setIfInBounds_toArray,List.set_cons_zero,List.set_cons_succ]
    refine wpAnyH_done (by kernel_rfl) ?_ _
    obtain ⟨al,hal⟩:∃ al,al=X0.heap.size:=⟨_,rfl⟩
    rw[← hal]at S9 hge ⊢
    have y18:=hb9
    clear hal
    obtain ⟨ng6,A6,m6,c6,D6,k6,e6,hRs,hIs⟩:=S9.out
    have KS:Hid (∀ X:World,Below w9'.heap.size w9' X→(X.cell? ⟨u2.heap.size,0,none⟩=some (.bool ng1)∧X.cell? ⟨u2.heap.size,1,none⟩=some (.slice A1' m1' c1')∧X.cell? ⟨u2.heap.size,2,none⟩=some (.slice D1 k1 e1))∧X.cell? ⟨al,0,none⟩=some (.bool ng6)∧X.cell? ⟨al,1,none⟩=some (.slice A6 m6 c6)∧X.cell? ⟨al,2,none⟩=some (.slice D6 k6 e6)):=Lib.hid fun X h=>by
     have p1:=(KC.out X (below_seq y18 h)).1
     have p2:=Row.keep hRs h
     exact ⟨p1,p2.cell 0,p2.cell 1,p2.cell 2⟩
    have RS:=Lib.hid hRs;have IS:=Lib.hid hIs
    have xs9:=below_seq xv y18
    have CV1:Hid (∀ X,Below w9'.heap.size w9' X→Calls Tryz.prog 16 #[.pointer (some ⟨ba,0,none⟩),.int .i64 i] X (Gives (fun z w'=>FracPtr w' z (atC ca (i:Nat))) X)):=Lib.hid fun X h=>by
     rw[← PEA.out]
     exact vec_At X _ pa (.inr (KVA.out X (below_seq xs9 h))) (by omega) i
    have CV2:Hid (∀ X,Below w9'.heap.size w9' X→Calls Tryz.prog 16 #[.pointer bs,.int .i64 i] X (Gives (fun z w'=>FracPtr w' z (atOf mg (i:Nat))) X)):=Lib.hid fun X h=>vec_At X _ mg (.inr (KVS.out X (below_seq xs9 h))) (by omega) i
    have fa:Fits 2000 (atC ca (i:Nat)):=by rw[← PEA.out];exact atOf_fits (by omega) FA.out _
    have fs:Fits 1000000 (atOf mg (i:Nat)):=atOf_fits (by omega) FS.out _
    obtain ⟨TA,hTA⟩:∃ T:ByteArray,T=⟨(fracText (atC ca (i:Nat))).toArray⟩:=⟨_,rfl⟩
    obtain ⟨TS,hTS⟩:∃ T:ByteArray,T=⟨(fracText (atOf mg (i:Nat))).toArray⟩:=⟨_,rfl⟩
    have CX1:Hid (∀ X v,Below w9'.heap.size w9' X→FracPtr X v (atC ca (i:Nat))→Calls Tryz.prog 10 #[v] X (Keeps (.string TA) X)):=Lib.hid fun X v h hv=>by rw[hTA];exact frac_Text X v _ hv.at_ (fa.mono (by omega)) (HT.out.keep (KW.out X (below_seq xs9 h)))
    have CX2:Hid (∀ X v,Below w9'.heap.size w9' X→FracPtr X v (atOf mg (i:Nat))→Calls Tryz.prog 10 #[v] X (Keeps (.string TS) X)):=Lib.hid fun X v h hv=>by rw[hTS];exact frac_Text X v _ hv.at_ (fs.mono (by omega)) (HT.out.keep (KW.out X (below_seq xs9 h)))
    have CQ1:Hid (∀ X,Below w9'.heap.size w9' X→Calls Tryz.prog 17 #[.agg #[.bool ng1,.slice A1' m1' c1',.slice D1 k1 e1]] X (Keeps (.string TA) X)):=Lib.hid fun X h=>by rw[hTA];exact refq_Text X _ _ _ (IP.out.keep (below_seq y18 h)) (by omega)
    have CQ2:Hid (∀ X,Below w9'.heap.size w9' X→Calls Tryz.prog 17 #[.agg #[.bool ng6,.slice A6 m6 c6,.slice D6 k6 e6]] X (Keeps (.string TS) X)):=Lib.hid fun X h=>by rw[hTS];exact refq_Text X _ _ _ (IS.out.keep h) (by omega)
    clear hRs hIs fa fs hTA hTS S9
    go_upto_region 19 with fail
    refine wp_region_held (S:=fun X:World=>Below w9'.heap.size w9' X) (by kernel_rfl) ?_
    change wpAnyH _ _ _ _ _ _ _ _ (World.drew _)
    obtain ⟨V0,hV0⟩:∃ X,X=(w9').drew:=⟨_,rfl⟩
    rw[← hV0]
    have t0:Below (w9').heap.size (w9') V0:=by rw[hV0];exact Below.drewN_ (Below.refl _ _) 1
    clear hV0
    refine wpAnyH_take (i:=0) (oi:=vva19_0) (v:=.pointer (some ⟨ba,0,none⟩)) rfl (by kernel_rfl) (by kernel_rfl) (by kernel_rfl) (fun _ _ _ h=>h) (Or.inl ⟨by kernel_rfl,?_⟩) (t0) ?_
    ·intro w hSw;go_simp<;>first|omega|(intro hh;exfalso;omega)|rfl|simp
    try simp only[Act.put,List.setIfInBounds_toArray,List.set_cons_zero,List.set_cons_succ,vva19_0]
    refine wpAnyH_take (i:=1) (oi:=vva19_1) (v:=.int .i64 i) rfl (by kernel_rfl) (by kernel_rfl) (by kernel_rfl) (fun _ _ _ h=>h) (Or.inl ⟨by kernel_rfl,?_⟩) (t0) ?_
    ·intro w hSw;go_simp<;>first|omega|(intro hh;exfalso;omega)|rfl|simp
    try simp only[Act.put,List.setIfInBounds_toArray,List.set_cons_zero,List.set_cons_succ,vva19_1]
    refine wpAnyH_take (i:=4) (oi:=vva19_4) (v:=.agg #[.bool ng1,.slice A1' m1' c1',.slice D1 k1 e1]) rfl (by kernel_rfl) (by kernel_rfl) (by kernel_rfl) (fun _ _ _ h=>h) (Or.inl ⟨by kernel_rfl,?_⟩) (t0) ?_
    ·intro w hSw;obtain ⟨⟨e0,e1,e2⟩,e3,e4,e5⟩:=KS.out w hSw;go_simp<;>first|omega|(intro hh;exfalso;omega)|rfl|simp
    try simp only[Act.put,List.setIfInBounds_toArray,List.set_cons_zero,List.set_cons_succ,vva19_4]
    refine wpAnyH_ready (rs:=[2]) (by kernel_rfl) (by simp) ?_
    apply AllReadyH.cons (o:=vva19_2) (by kernel_rfl)
    case hs=>exact AllReadyH.nil
    intro K hK
    simp only[vva19_2]
    go_simp
    go_at_call 16
    refine (CV1.out _ t0).mono ?_
    rintro e' V1 ⟨v1,rfl,hv1,d1⟩
    have t1:=below_seq t0 d1
    have HV1:=Lib.hid hv1
    obtain ⟨p1,rfl⟩:=hv1.ptr
    clear hv1
    refine hK.out _ _ (t1) (fun hHeld=>?_)
    clear hK K hHeld
    try simp only[Act.put,List.setIfInBounds_toArray,List.set_cons_zero,List.set_cons_succ]
    refine wpAnyH_ready (rs:=[3]) (by kernel_rfl) (by simp) ?_
    apply AllReadyH.cons (o:=vva19_3) (by kernel_rfl)
    case hs=>exact AllReadyH.nil
    intro K hK
    simp only[vva19_3]
    go_simp
    go_at_call 10
    refine (CX1.out _ _ t1 HV1.out).mono ?_
    rintro e' V2 ⟨rfl,d2⟩
    have t2:=below_seq t1 d2
    refine hK.out _ _ (t2) (fun hHeld=>?_)
    clear hK K hHeld
    try simp only[Act.put,List.setIfInBounds_toArray,List.set_cons_zero,List.set_cons_succ]
    refine wpAnyH_ready (rs:=[5]) (by kernel_rfl) (by simp) ?_
    apply AllReadyH.cons (o:=vva19_5) (by kernel_rfl)
    case hs=>exact AllReadyH.nil
    intro K hK
    simp only[vva19_5]
    go_simp
    go_at_call 17
    refine (CQ1.out _ t2).mono ?_
    rintro e' V3 ⟨rfl,d3⟩
    have t3:=below_seq t2 d3
    refine hK.out _ _ (t3) (fun hHeld=>?_)
    clear hK K hHeld
    try simp only[Act.put,List.setIfInBounds_toArray,List.set_cons_zero,List.set_cons_succ]
    refine wpAnyH_take (i:=6) (oi:=vva19_6) (v:=.bool false) rfl (by kernel_rfl) (by kernel_rfl) (by kernel_rfl) (fun _ _ _ h=>h) (Or.inl ⟨by kernel_rfl,?_⟩) (t3) ?_
    ·intro w hSw;go_simp<;>first|omega|(intro hh;exfalso;omega)|rfl|simp
    try simp only[Act.put,List.setIfInBounds_toArray,List.set_cons_zero,List.set_cons_succ,vva19_6]
    refine wpAnyH_take (i:=7) (oi:=vva19_7) (v:=.bool false) rfl (by kernel_rfl) (by kernel_rfl) (by kernel_rfl) (fun _ _ _ h=>h) (Or.inl ⟨by kernel_rfl,?_⟩) (t3) ?_
    ·intro w hSw;go_simp<;>first|omega|(intro hh;exfalso;omega)|rfl|simp
    try simp only[Act.put,List.setIfInBounds_toArray,List.set_cons_zero,List.set_cons_succ,vva19_7]
    refine wpAnyH_take (i:=8) (oi:=vva19_8) (v:=.pointer bs) rfl (by kernel_rfl) (by kernel_rfl) (by kernel_rfl) (fun _ _ _ h=>h) (Or.inl ⟨by kernel_rfl,?_⟩) (t3) ?_
    ·intro w hSw;go_simp<;>first|omega|(intro hh;exfalso;omega)|rfl|simp
    try simp only[Act.put,List.setIfInBounds_toArray,List.set_cons_zero,List.set_cons_succ,vva19_8]
    refine wpAnyH_take (i:=9) (oi:=vva19_9) (v:=.int .i64 i) rfl (by kernel_rfl) (by kernel_rfl) (by kernel_rfl) (fun _ _ _ h=>h) (Or.inl ⟨by kernel_rfl,?_⟩) (t3) ?_
    ·intro w hSw;go_simp<;>first|omega|(intro hh;exfalso;omega)|rfl|simp
    try simp only[Act.put,List.setIfInBounds_toArray,List.set_cons_zero,List.set_cons_succ,vva19_9]
    refine wpAnyH_take (i:=12) (oi:=vva19_12) (v:=.agg #[.bool ng6,.slice A6 m6 c6,.slice D6 k6 e6]) rfl (by kernel_rfl) (by kernel_rfl) (by kernel_rfl) (fun _ _ _ h=>h) (Or.inl ⟨by kernel_rfl,?_⟩) (t3) ?_
    ·intro w hSw;obtain ⟨⟨e0,e1,e2⟩,e3,e4,e5⟩:=KS.out w hSw;go_simp<;>first|omega|(intro hh;exfalso;omega)|rfl|simp
    try simp only[Act.put,List.setIfInBounds_toArray,List.set_cons_zero,List.set_cons_succ,vva19_12]
    refine wpAnyH_ready (rs:=[10]) (by kernel_rfl) (by simp) ?_
    apply AllReadyH.cons (o:=vva19_10) (by kernel_rfl)
    case hs=>exact AllReadyH.nil
    intro K hK
    simp only[vva19_10]
    go_simp
    go_at_call 16
    refine (CV2.out _ t3).mono ?_
    rintro e' V4 ⟨v4,rfl,hv4,d4⟩
    have t4:=below_seq t3 d4
    have HV4:=Lib.hid hv4
    obtain ⟨p4,rfl⟩:=hv4.ptr
    clear hv4
    refine hK.out _ _ (t4) (fun hHeld=>?_)
    clear hK K hHeld
    try simp only[Act.put,List.setIfInBounds_toArray,List.set_cons_zero,List.set_cons_succ]
    refine wpAnyH_ready (rs:=[11]) (by kernel_rfl) (by simp) ?_
    apply AllReadyH.cons (o:=vva19_11) (by kernel_rfl)
    case hs=>exact AllReadyH.nil
    intro K hK
    simp only[vva19_11]
    go_simp
    go_at_call 10
    refine (CX2.out _ _ t4 HV4.out).mono ?_
    rintro e' V5 ⟨rfl,d5⟩
    have t5:=below_seq t4 d5
    refine hK.out _ _ (t5) (fun hHeld=>?_)
    clear hK K hHeld
    try simp only[Act.put,List.setIfInBounds_toArray,List.set_cons_zero,List.set_cons_succ]
    refine wpAnyH_ready (rs:=[13]) (by kernel_rfl) (by simp) ?_
    apply AllReadyH.cons (o:=vva19_13) (by kernel_rfl)
    case hs=>exact AllReadyH.nil
    intro K hK
    simp only[vva19_13]
    go_simp
    go_at_call 17
    refine (CQ2.out _ t5).mono ?_
    rintro e' V6 ⟨rfl,d6⟩
    have t6:=below_seq t5 d6
    refine hK.out _ _ (t6) (fun hHeld=>?_)
    clear hK K hHeld
    try simp only[Act.put,List.setIfInBounds_toArray,List.set_cons_zero,List.set_cons_succ]
    refine wpAnyH_take (i:=14) (oi:=vva19_14) (v:=.bool false) rfl (by kernel_rfl) (by kernel_rfl) (by kernel_rfl) (fun _ _ _ h=>h) (Or.inl ⟨by kernel_rfl,?_⟩) (t6) ?_
    ·intro w hSw;go_simp<;>first|omega|(intro hh;exfalso;omega)|rfl|simp
    try simp only[Act.put,List.setIfInBounds_toArray,List.set_cons_zero,List.set_cons_succ,vva19_14]
    refine wpAnyH_take (i:=15) (oi:=vva19_15) (v:=.bool false) rfl (by kernel_rfl) (by kernel_rfl) (by kernel_rfl) (fun _ _ _ h=>h) (Or.inl ⟨by kernel_rfl,?_⟩) (t6) ?_
    ·intro w hSw;go_simp<;>first|omega|(intro hh;exfalso;omega)|rfl|simp
    try simp only[Act.put,List.setIfInBounds_toArray,List.set_cons_zero,List.set_cons_succ,vva19_15]
    refine wpAnyH_done (by kernel_rfl) ?_ _
    obtain ⟨ww,hww⟩:∃ X,X=V6:=⟨_,rfl⟩
    have yw:Below wv.heap.size wv V6:=below_seq y18 t6
    have SV:=Lib.hid (RS.out.keep t6);have SI:=Lib.hid (IS.out.keep t6)
    obtain ⟨ng3,A3x,m3x,c3x,D3x,k3x,e3x,hR3,hI3⟩:=VAR.out.keep yw
    have HS:Hid (Row V6 wz.heap.size 35 #[.bool ng3,.slice A3x m3x c3x,.slice D3x k3x e3x]∧RefIs V6 (.agg #[.bool ng3,.slice A3x m3x c3x,.slice D3x k3x e3x]) (D i) (i*1201+1)):=Lib.hid ⟨hR3,hI3⟩
    have IP6:=Lib.hid (IP.out.keep yw);have IQ6:=Lib.hid (IQ.out.keep yw)
    have RP6:=Lib.hid (RP.out.keep yw);have RQ6:=Lib.hid (RQ.out.keep yw)
    have zw6:=below_seq xv yw
    have hal:wz.heap.size<al:=by omega
    have HQ:Hid (∀ X:World,(∀ b,b≠wz.heap.size→b<V6.heap.size→X.heap[b]?=V6.heap[b]?)→(X.cell? ⟨u2.heap.size,0,none⟩=some (.bool ng1)∧X.cell? ⟨u2.heap.size,1,none⟩=some (.slice A1' m1' c1')∧X.cell? ⟨u2.heap.size,2,none⟩=some (.slice D1 k1 e1))∧(X.cell? ⟨u2.heap.size+1,0,none⟩=some (.bool ng2)∧X.cell? ⟨u2.heap.size+1,1,none⟩=some (.slice A2x m2x c2x)∧X.cell? ⟨u2.heap.size+1,2,none⟩=some (.slice D2 k2 e2))):=Lib.hid fun X h=>by
     have p1:Row X u2.heap.size 35 #[.bool ng1,.slice A1' m1' c1',.slice D1 k1 e1]:=(h _ (by omega) RP6.out.lt).trans RP6.out
     have p2:Row X (u2.heap.size+1) 35 #[.bool ng2,.slice A2x m2x c2x,.slice D2 k2 e2]:=(h _ (by omega) RQ6.out.lt).trans RQ6.out
     exact ⟨⟨p1.cell 0,p1.cell 1,p1.cell 2⟩,p2.cell 0,p2.cell 1,p2.cell 2⟩
    clear hR3 hI3 VAR
    go_upto_region 21 with fail
    refine wp_region_held (S:=fun X:World=>∀ b,b≠wz.heap.size→b<V6.heap.size→X.heap[b]?=V6.heap[b]?) (by kernel_rfl) ?_
    change wpAnyH _ _ _ _ _ _ _ _ (World.drew _)
    obtain ⟨X0,hX0⟩:∃ X,X=(V6).drew:=⟨_,rfl⟩
    rw[← hX0]
    have y0:Below (V6).heap.size (V6) X0:=by rw[hX0];exact Below.drewN_ (Below.refl _ _) 1
    clear hX0
    refine wpAnyH_take (i:=1) (oi:=vva21_1) (v:=.agg #[.bool ng1,.slice A1' m1' c1',.slice D1 k1 e1]) rfl (by kernel_rfl) (by kernel_rfl) (by kernel_rfl) (fun _ _ _ h=>h) (Or.inl ⟨by kernel_rfl,?_⟩) ((fun b _ hb=>(y0).block b hb)) ?_
    ·intro w hSw;obtain ⟨⟨e0,e1,e2⟩,e3,e4,e5⟩:=HQ.out w hSw;go_simp<;>first|omega|(intro hh;exfalso;omega)|rfl
    try simp only[Act.put,List.setIfInBounds_toArray,List.set_cons_zero,List.set_cons_succ,vva21_1]
    refine wpAnyH_take (i:=2) (oi:=vva21_2) (v:=.agg #[.bool ng2,.slice A2x m2x c2x,.slice D2 k2 e2]) rfl (by kernel_rfl) (by kernel_rfl) (by kernel_rfl) (fun _ _ _ h=>h) (Or.inl ⟨by kernel_rfl,?_⟩) ((fun b _ hb=>(y0).block b hb)) ?_
    ·intro w hSw;obtain ⟨⟨e0,e1,e2⟩,e3,e4,e5⟩:=HQ.out w hSw;go_simp<;>first|omega|(intro hh;exfalso;omega)|rfl
    try simp only[Act.put,List.setIfInBounds_toArray,List.set_cons_zero,List.set_cons_succ,vva21_2]
    refine wpAnyH_ready (rs:=[0,3]) (by kernel_rfl) (by simp) ?_
    apply AllReadyH.cons (o:=vva21_0) (by kernel_rfl)
    case h=>
     intro K hK
     simp only[vva21_0]
     have hr:=HS.out.1.keep y0
     have e0:=hr.cell 0;have e1:=hr.cell 1;have e2:=hr.cell 2
     simp at e0 e1 e2
     go_simp
     clear hr e0 e1 e2
     refine hK.out _ _ ((fun b _ hb=>(y0).block b hb)) (fun hHeld=>?_)
     clear hK K hHeld
     try simp only[Act.put,List.setIfInBounds_toArray,List.set_cons_zero,List.set_cons_succ]
     refine wpAnyH_ready (rs:=[3]) (by kernel_rfl) (by simp) ?_
     apply AllReadyH.cons (o:=vva21_3) (by kernel_rfl)
     case hs=>exact AllReadyH.nil
     intro K hK
     simp only[vva21_3]
     go_simp
     go_at_call 15
     refine (refq_Prod _ _ _ _ _ 600 600 (IP6.out.keep y0) (IQ6.out.keep y0) (by omega) (by omega)).mono ?_
     rintro e' X1 ⟨pv,rfl,hpv,b1⟩
     have y1:=below_seq y0 b1
     obtain ⟨ng7,A7,m7,c7,D7,k7,e7,rfl⟩:=hpv.shape
     refine hK.out _ _ ((fun b _ hb=>(y1).block b hb)) (fun hHeld=>?_)
     clear hK K hHeld
     try simp only[Act.put,List.setIfInBounds_toArray,List.set_cons_zero,List.set_cons_succ]
     refine wpAnyH_ready (rs:=[4]) (by kernel_rfl) (by simp) ?_
     apply AllReadyH.cons (o:=vva21_4) (by kernel_rfl)
     case hs=>exact AllReadyH.nil
     intro K hK
     simp only[vva21_4]
     go_simp
     go_at_call 14
     refine (refq_Sum _ _ _ _ _ (i*1201+1) (600+600) (HS.out.2.keep y1) hpv (by omega) (by omega)).mono ?_
     rintro e' X2 ⟨sv,rfl,hsv,b2⟩
     have y2:=below_seq y1 b2
     rw[← HD.out]at hsv
     obtain ⟨ng8,A8,m8,c8,D8,k8,e8,rfl⟩:=hsv.shape
     have HSV:=Lib.hid hsv
     clear hpv hsv b1 b2
     refine hK.out _ _ ((fun b _ hb=>(y2).block b hb)) (fun hHeld=>?_)
     clear hK K hHeld
     try simp only[Act.put,List.setIfInBounds_toArray,List.set_cons_zero,List.set_cons_succ]
     refine wpAnyH_ready (rs:=[5]) (by kernel_rfl) (by simp) ?_
     apply AllReadyH.cons (o:=vva21_5) (by kernel_rfl)
     case hs=>exact AllReadyH.nil
     intro K hK
     simp only[vva21_5]
     obtain ⟨w9'',hw9,hrow9,hb9',hO9,q0,q1,q2,f0,f1,f2⟩:=qput2 (.bool ng8) (.slice A8 m8 c8) (.slice D8 k8 e8) (HS.out.1.keep y2) (zw6.trans (y2.mono zw6.size)) (Nat.le_refl _)
     have S9:∀ b,b≠wz.heap.size→b<V6.heap.size→w9''.heap[b]?=V6.heap[b]?:=fun b hb hl=>(hO9.block b hb).trans (y2.block b hl)
     have HV9:Hid (RefVar 35 w9'' wz.heap.size (D (i+1)) ((i+1)*1201+1)):=Lib.hid ⟨_,_,_,_,_,_,_,hrow9,(HSV.out.rowq (HS.out.1.keep y2) hO9).mono (by omega)⟩
     have SV9:Hid (Row w9'' al 35 #[.bool ng6,.slice A6 m6 c6,.slice D6 k6 e6]):=Lib.hid ((S9 al (by omega) SV.out.lt).trans SV.out)
     have SI9:Hid (RefIs w9'' (.agg #[.bool ng6,.slice A6 m6 c6,.slice D6 k6 e6]) (atOf mg (i:Nat)) 1801):=Lib.hid ((SI.out.keep y2).rowq (HS.out.1.keep y2) hO9)
     have HW9:=Lib.hid hw9;have HB9:=Lib.hid hb9'
     clear hw9 hrow9 hb9' hO9
     go_simp
     rw[← HW9.out]
     clear q0 q1 q2 f0 f1 f2
     refine hK.out _ _ (S9) (fun hHeld=>?_)
     clear hK K hHeld
     try simp only[Act.put,List.setIfInBounds_toArray,List.set_cons_zero,List.set_cons_succ]
     refine wpAnyH_done (by kernel_rfl) ?_ _
     have c0:=SV9.out.cell 0;have c1:=SV9.out.cell 1;have c2:=SV9.out.cell 2
     have CZ:=Lib.hid (ref_Q_Zero w9'' _ _ _ SI9.out)
     by_cases hz0:atOf mg (i:Nat)=0
     case' pos=>
      rw[decide_eq_true hz0]at CZ
      have HN2:Hid (cnt mg (i+1)=N0):=Lib.hid (by show _=_;rw[HN1.out,if_pos hz0,Nat.add_zero])
     case' neg=>
      rw[decide_eq_false hz0]at CZ
      have HN2:Hid (cnt mg (i+1)=N0+1):=Lib.hid (by rw[HN1.out,if_neg hz0])
     all_goals
      clear hz0 S9
      go_wp2_with fail
      go_at_call 18
      refine CZ.out.mono ?_
      rintro e' wq ⟨rfl,hbq⟩
      have ZZ:=Lib.hid (below_seq HB9.out hbq)
      have HVq:=Lib.hid (HV9.out.keep hbq)
      clear c0 c1 c2 CZ
      go_wp2_with fail
      go_roundw
      case rel=>exact ⟨i+1,by go_num,by rw[HN2.out]<;>first|rfl|go_num,by omega,HVq,ZZ.out⟩
      case measure=>simp[intOf];omega
    apply AllReadyH.cons (o:=vva21_3) (by kernel_rfl)
    case h=>
     intro K hK
     simp only[vva21_3]
     go_simp
     go_at_call 15
     refine (refq_Prod _ _ _ _ _ 600 600 (IP6.out.keep y0) (IQ6.out.keep y0) (by omega) (by omega)).mono ?_
     rintro e' X1 ⟨pv,rfl,hpv,b1⟩
     have y1:=below_seq y0 b1
     obtain ⟨ng7,A7,m7,c7,D7,k7,e7,rfl⟩:=hpv.shape
     refine hK.out _ _ ((fun b _ hb=>(y1).block b hb)) (fun hHeld=>?_)
     clear hK K hHeld
     try simp only[Act.put,List.setIfInBounds_toArray,List.set_cons_zero,List.set_cons_succ]
     refine wpAnyH_ready (rs:=[0]) (by kernel_rfl) (by simp) ?_
     apply AllReadyH.cons (o:=vva21_0) (by kernel_rfl)
     case hs=>exact AllReadyH.nil
     intro K hK
     simp only[vva21_0]
     have hr:=HS.out.1.keep y1
     have e0:=hr.cell 0;have e1:=hr.cell 1;have e2:=hr.cell 2
     simp at e0 e1 e2
     go_simp
     clear hr e0 e1 e2
     refine hK.out _ _ ((fun b _ hb=>(y1).block b hb)) (fun hHeld=>?_)
     clear hK K hHeld
     try simp only[Act.put,List.setIfInBounds_toArray,List.set_cons_zero,List.set_cons_succ]
     refine wpAnyH_ready (rs:=[4]) (by kernel_rfl) (by simp) ?_
     apply AllReadyH.cons (o:=vva21_4) (by kernel_rfl)
     case hs=>exact AllReadyH.nil
     intro K hK
     simp only[vva21_4]
     go_simp
     go_at_call 14
     refine (refq_Sum _ _ _ _ _ (i*1201+1) (600+600) (HS.out.2.keep y1) hpv (by omega) (by omega)).mono ?_
     rintro e' X2 ⟨sv,rfl,hsv,b2⟩
     have y2:=below_seq y1 b2
     rw[← HD.out]at hsv
     obtain ⟨ng8,A8,m8,c8,D8,k8,e8,rfl⟩:=hsv.shape
     have HSV:=Lib.hid hsv
     clear hpv hsv b1 b2
     refine hK.out _ _ ((fun b _ hb=>(y2).block b hb)) (fun hHeld=>?_)
     clear hK K hHeld
     try simp only[Act.put,List.setIfInBounds_toArray,List.set_cons_zero,List.set_cons_succ]
     refine wpAnyH_ready (rs:=[5]) (by kernel_rfl) (by simp) ?_
     apply AllReadyH.cons (o:=vva21_5) (by kernel_rfl)
     case hs=>exact AllReadyH.nil
     intro K hK
     simp only[vva21_5]
     obtain ⟨w9'',hw9,hrow9,hb9',hO9,q0,q1,q2,f0,f1,f2⟩:=qput2 (.bool ng8) (.slice A8 m8 c8) (.slice D8 k8 e8) (HS.out.1.keep y2) (zw6.trans (y2.mono zw6.size)) (Nat.le_refl _)
     have S9:∀ b,b≠wz.heap.size→b<V6.heap.size→w9''.heap[b]?=V6.heap[b]?:=fun b hb hl=>(hO9.block b hb).trans (y2.block b hl)
     have HV9:Hid (RefVar 35 w9'' wz.heap.size (D (i+1)) ((i+1)*1201+1)):=Lib.hid ⟨_,_,_,_,_,_,_,hrow9,(HSV.out.rowq (HS.out.1.keep y2) hO9).mono (by omega)⟩
     have SV9:Hid (Row w9'' al 35 #[.bool ng6,.slice A6 m6 c6,.slice D6 k6 e6]):=Lib.hid ((S9 al (by omega) SV.out.lt).trans SV.out)
     have SI9:Hid (RefIs w9'' (.agg #[.bool ng6,.slice A6 m6 c6,.slice D6 k6 e6]) (atOf mg (i:Nat)) 1801):=Lib.hid ((SI.out.keep y2).rowq (HS.out.1.keep y2) hO9)
     have HW9:=Lib.hid hw9;have HB9:=Lib.hid hb9'
     clear hw9 hrow9 hb9' hO9
     go_simp
     rw[← HW9.out]
     clear q0 q1 q2 f0 f1 f2
     refine hK.out _ _ (S9) (fun hHeld=>?_)
     clear hK K hHeld
     try simp only[Act.put,List.setIfInBounds_toArray,List.set_cons_zero,List.set_cons_succ]
     refine wpAnyH_done (by kernel_rfl) ?_ _
     have c0:=SV9.out.cell 0;have c1:=SV9.out.cell 1;have c2:=SV9.out.cell 2
     have CZ:=Lib.hid (ref_Q_Zero w9'' _ _ _ SI9.out)
     by_cases hz0:atOf mg (i:Nat)=0
     case' pos=>
      rw[decide_eq_true hz0]at CZ
      have HN2:Hid (cnt mg (i+1)=N0):=Lib.hid (by show _=_;rw[HN1.out,if_pos hz0,Nat.add_zero])
     case' neg=>
      rw[decide_eq_false hz0]at CZ
      have HN2:Hid (cnt mg (i+1)=N0+1):=Lib.hid (by rw[HN1.out,if_neg hz0])
     all_goals
      clear hz0 S9
      go_wp2_with fail
      go_at_call 18
      refine CZ.out.mono ?_
      rintro e' wq ⟨rfl,hbq⟩
      have ZZ:=Lib.hid (below_seq HB9.out hbq)
      have HVq:=Lib.hid (HV9.out.keep hbq)
      clear c0 c1 c2 CZ
      go_wp2_with fail
      go_roundw
      case rel=>exact ⟨i+1,by go_num,by rw[HN2.out]<;>first|rfl|go_num,by omega,HVq,ZZ.out⟩
      case measure=>simp[intOf];omega
    exact AllReadyH.nil
   exact AllReadyH.nil
  ·obtain rfl:i=31:=by omega
   have HNN:Hid (cnt mg 31=mg.length):=Lib.hid (cnt_all MR.out fun p hp=>⟨MN.out p hp,(MP.out p hp).1,by have:=(MP.out p hp).2;omega⟩)
   rw[HNN.out]
   obtain ⟨ng3,A3,m3,c3,D3,k3,e3,hR3,hI3⟩:=hvar.out
   have RD:=Lib.hid hR3;have ID:=Lib.hid hI3
   have CC:=Lib.hid (vec_Coefs wr (.pointer bs) mg (.inr (KVS.out _ hbr)) (by omega) FS.out (HT.out.keep (KW.out _ hbr)))
   clear hvar hR3 hI3
   go_wp2_with fail
   go_at_call 19
   refine CC.out.mono ?_
   rintro e wc ⟨sl,rfl,hownl,hbc⟩
   have zc:=below_seq hbr hbc
   obtain ⟨Al,ql,hlc,hcell,hincl⟩:∃ A c,sl=.slice A mg.length c∧mg.length≤c∧∀ (j:Nat) p,mg[j]?=some p→∃ g o,A=some ⟨g,o,none⟩∧wc.cell? ⟨g,o+j*2,none⟩=some (.int .i64 p.1)∧wc.cell? ⟨g,o+j*2+1,none⟩=some (.string ⟨(fracText p.2).toArray⟩):=by
    obtain ⟨A,c,h1,h2,h3⟩:=hownl.in_
    have e1:(coefsOf mg).length=mg.length:=by simp[coefsOf]
    rw[e1]at h1 h2
    exact ⟨A,c,h1,h2,fun j p hj=>h3 j (p.1,fracText p.2) (by simp[coefsOf,hj])⟩
   subst hlc
   have HL:=Lib.hid hincl
   have RD6:=Lib.hid (RD.out.keep hbc);have ID6:=Lib.hid (ID.out.keep hbc)
   obtain ⟨NL,hNL⟩:∃ NL,NL=mg.length:=⟨_,rfl⟩
   rw[← hNL]at hcell hml HNN ⊢
   have HNL:=Lib.hid hNL
   clear hownl hincl CC RD ID hNL
   go_wp2_with fail
   go_loopw [114] (fun t wx=>∃ j:Nat,t=.int .i64 j∧j≤NL∧Below wc.heap.size wc wx) (fun t _=>NL - (intOf t).toNat)
   case atStart=>exact ⟨0,rfl,Nat.zero_le _,Below.refl _ _⟩
   case round=>
    obtain ⟨j,rfl,hj,hbx⟩:=hrel
    by_cases hjl:j<NL
    ·have hjl':=Int.ofNat_lt.2 hjl
     obtain ⟨p,hp⟩:∃ p,mg[j]?=some p:=⟨mg[j]'(by have:=HNL.out;omega),by simp[← HNL.out,hjl]⟩
     obtain ⟨g,o,rfl,hc1,hc2⟩:=HL.out j p hp
     have hpm:p∈mg:=List.mem_of_getElem? hp
     have hp0:=MN.out p hpm
     have hat:=atOf_memC MR.out p hpm
     have hpf:=FS.out p hpm
     have ht48:(⟨(fracText p.2).toArray⟩:ByteArray)≠⟨#[48]⟩:=fun e=>hp0 (text_nought (by
      have:=congrArg (fun b:ByteArray=>b.data.toList) e
      simpa using this))
     obtain ⟨TL,hTL⟩:∃ T:List UInt8,T=fracText p.2:=⟨_,rfl⟩
     rw[← hTL]at hc2 ht48
     have KP:Hid (∀ X:World,Below wr.heap.size wr X→X.cell? ⟨g,o+j*2,none⟩=some (.int .i64 p.1)∧X.cell? ⟨g,o+j*2+1,none⟩=some (.string ⟨TL.toArray⟩)):=Lib.hid fun X h=>⟨cell_keep hc1 (below_seq hbx h),cell_keep hc2 (below_seq hbx h)⟩
     have CV:Hid (∀ X,Below wr.heap.size wr X→Calls Tryz.prog 16 #[.pointer bs,.int .i64 p.1] X (Gives (fun z w'=>FracPtr w' z p.2) X)):=Lib.hid fun X h=>by
      rw[← hat]
      exact vec_At X _ mg (.inr (KVS.out X (below_seq zc (below_seq hbx h)))) (by have:=HNL.out;omega) p.1
     have CX:Hid (∀ X v,Below wr.heap.size wr X→FracPtr X v p.2→Calls Tryz.prog 10 #[v] X (Keeps (.string ⟨TL.toArray⟩) X)):=Lib.hid fun X v h hv=>by rw[hTL];exact frac_Text X v _ hv.at_ (hpf.mono (by omega)) (HT.out.keep (KW.out X (below_seq zc (below_seq hbx h))))
     have h48:(TL == [48])=false:=beq_eq_false_iff_ne.2 fun e=>ht48 (by rw[e])
     have hq:NL≤ql:=hcell
     clear hc1 hc2 hpf hat hp0 hTL
     rcases Nat.eq_zero_or_pos j with hj0|hj0
     ·subst hj0
      clear hp hpm
      have KP0:Hid (∀ X:World,Below wr.heap.size wr X→X.cell? ⟨g,o,none⟩=some (.int .i64 p.1)∧X.cell? ⟨g,o+1,none⟩=some (.string ⟨TL.toArray⟩)):=Lib.hid fun X h=>by
       have:=KP.out X h
       rwa [Nat.zero_mul,Nat.add_zero]at this
      go_wp2_with fail
      refine wp_region_held (S:=fun X:World=>Below wr.heap.size wr X) (by kernel_rfl) ?_
      change wpAnyH _ _ _ _ _ _ _ _ (World.drew _)
      obtain ⟨V0,hV0⟩:∃ X,X=(wr).drew:=⟨_,rfl⟩
      rw[← hV0]
      have t0:Below (wr).heap.size (wr) V0:=by rw[hV0];exact Below.drewN_ (Below.refl _ _) 1
      clear hV0
      refine wpAnyH_take (i:=0) (oi:=vva28_0) (v:=.int .i64 0) rfl (by kernel_rfl) (by kernel_rfl) (by kernel_rfl) (fun _ _ _ h=>h) (Or.inl ⟨by kernel_rfl,?_⟩) (t0) ?_
      ·intro w hSw;go_simp<;>first|omega|(intro hh;exfalso;omega)|rfl|(rw[IntKind.wrap_i64];omega)|simp|(simp;omega)
      try simp only[Act.put,List.setIfInBounds_toArray,List.set_cons_zero,List.set_cons_succ,vva28_0]
      refine wpAnyH_take (i:=1) (oi:=vva28_1) (v:=.bool false) rfl (by kernel_rfl) (by kernel_rfl) (by kernel_rfl) (fun _ _ _ h=>h) (Or.inl ⟨by kernel_rfl,?_⟩) (t0) ?_
      ·intro w hSw;go_simp<;>first|omega|(intro hh;exfalso;omega)|rfl|(rw[IntKind.wrap_i64];omega)|simp|(simp;omega)
      try simp only[Act.put,List.setIfInBounds_toArray,List.set_cons_zero,List.set_cons_succ,vva28_1]
      refine wpAnyH_take (i:=2) (oi:=vva28_2) (v:=.bool false) rfl (by kernel_rfl) (by kernel_rfl) (by kernel_rfl) (fun _ _ _ h=>h) (Or.inl ⟨by kernel_rfl,?_⟩) (t0) ?_
      ·intro w hSw;go_simp<;>first|omega|(intro hh;exfalso;omega)|rfl|(rw[IntKind.wrap_i64];omega)|simp|(simp;omega)
      try simp only[Act.put,List.setIfInBounds_toArray,List.set_cons_zero,List.set_cons_succ,vva28_2]
      refine wpAnyH_take (i:=3) (oi:=vva28_3) (v:=undef) rfl (by kernel_rfl) (by kernel_rfl) (by kernel_rfl) (fun _ _ _ h=>h) (Or.inr ⟨by kernel_rfl,rfl⟩) (t0) ?_
      try simp only[Act.put,List.setIfInBounds_toArray,List.set_cons_zero,List.set_cons_succ,vva28_3]
      refine wpAnyH_take (i:=4) (oi:=vva28_4) (v:=undef) rfl (by kernel_rfl) (by kernel_rfl) (by kernel_rfl) (fun _ _ _ h=>h) (Or.inr ⟨by kernel_rfl,rfl⟩) (t0) ?_
      try simp only[Act.put,List.setIfInBounds_toArray,List.set_cons_zero,List.set_cons_succ,vva28_4]
      refine wpAnyH_take (i:=5) (oi:=vva28_5) (v:=undef) rfl (by kernel_rfl) (by kernel_rfl) (by kernel_rfl) (fun _ _ _ h=>h) (Or.inr ⟨by kernel_rfl,rfl⟩) (t0) ?_
      try simp only[Act.put,List.setIfInBounds_toArray,List.set_cons_zero,List.set_cons_succ,vva28_5]
      refine wpAnyH_take (i:=6) (oi:=vva28_6) (v:=undef) rfl (by kernel_rfl) (by kernel_rfl) (by kernel_rfl) (fun _ _ _ h=>h) (Or.inr ⟨by kernel_rfl,rfl⟩) (t0) ?_
      try simp only[Act.put,List.setIfInBounds_toArray,List.set_cons_zero,List.set_cons_succ,vva28_6]
      refine wpAnyH_take (i:=7) (oi:=vva28_7) (v:=undef) rfl (by kernel_rfl) (by kernel_rfl) (by kernel_rfl) (fun _ _ _ h=>h) (Or.inr ⟨by kernel_rfl,rfl⟩) (t0) ?_
      try simp only[Act.put,List.setIfInBounds_toArray,List.set_cons_zero,List.set_cons_succ,vva28_7]
      refine wpAnyH_take (i:=8) (oi:=vva28_8) (v:=undef) rfl (by kernel_rfl) (by kernel_rfl) (by kernel_rfl) (fun _ _ _ h=>h) (Or.inr ⟨by kernel_rfl,rfl⟩) (t0) ?_
      try simp only[Act.put,List.setIfInBounds_toArray,List.set_cons_zero,List.set_cons_succ,vva28_8]
      refine wpAnyH_take (i:=9) (oi:=vva28_9) (v:=undef) rfl (by kernel_rfl) (by kernel_rfl) (by kernel_rfl) (fun _ _ _ h=>h) (Or.inr ⟨by kernel_rfl,rfl⟩) (t0) ?_
      try simp only[Act.put,List.setIfInBounds_toArray,List.set_cons_zero,List.set_cons_succ,vva28_9]
      refine wpAnyH_take (i:=10) (oi:=vva28_10) (v:=undef) rfl (by kernel_rfl) (by kernel_rfl) (by kernel_rfl) (fun _ _ _ h=>h) (Or.inr ⟨by kernel_rfl,rfl⟩) (t0) ?_
      try simp only[Act.put,List.setIfInBounds_toArray,List.set_cons_zero,List.set_cons_succ,vva28_10]
      refine wpAnyH_take (i:=11) (oi:=vva28_11) (v:=undef) rfl (by kernel_rfl) (by kernel_rfl) (by kernel_rfl) (fun _ _ _ h=>h) (Or.inr ⟨by kernel_rfl,rfl⟩) (t0) ?_
      try simp only[Act.put,List.setIfInBounds_toArray,List.set_cons_zero,List.set_cons_succ,vva28_11]
      refine wpAnyH_take (i:=12) (oi:=vva28_12) (v:=undef) rfl (by kernel_rfl) (by kernel_rfl) (by kernel_rfl) (fun _ _ _ h=>h) (Or.inr ⟨by kernel_rfl,rfl⟩) (t0) ?_
      try simp only[Act.put,List.setIfInBounds_toArray,List.set_cons_zero,List.set_cons_succ,vva28_12]
      refine wpAnyH_take (i:=13) (oi:=vva28_13) (v:=undef) rfl (by kernel_rfl) (by kernel_rfl) (by kernel_rfl) (fun _ _ _ h=>h) (Or.inr ⟨by kernel_rfl,rfl⟩) (t0) ?_
      try simp only[Act.put,List.setIfInBounds_toArray,List.set_cons_zero,List.set_cons_succ,vva28_13]
      refine wpAnyH_take (i:=14) (oi:=vva28_14) (v:=undef) rfl (by kernel_rfl) (by kernel_rfl) (by kernel_rfl) (fun _ _ _ h=>h) (Or.inr ⟨by kernel_rfl,rfl⟩) (t0) ?_
      try simp only[Act.put,List.setIfInBounds_toArray,List.set_cons_zero,List.set_cons_succ,vva28_14]
      refine wpAnyH_take (i:=15) (oi:=vva28_15) (v:=.bool false) rfl (by kernel_rfl) (by kernel_rfl) (by kernel_rfl) (fun _ _ _ h=>h) (Or.inl ⟨by kernel_rfl,?_⟩) (t0) ?_
      ·intro w hSw;go_simp<;>first|omega|(intro hh;exfalso;omega)|rfl|(rw[IntKind.wrap_i64];omega)|simp|(simp;omega)
      try simp only[Act.put,List.setIfInBounds_toArray,List.set_cons_zero,List.set_cons_succ,vva28_15]
      refine wpAnyH_take (i:=16) (oi:=vva28_16) (v:=.bool false) rfl (by kernel_rfl) (by kernel_rfl) (by kernel_rfl) (fun _ _ _ h=>h) (Or.inl ⟨by kernel_rfl,?_⟩) (t0) ?_
      ·intro w hSw;go_simp<;>first|omega|(intro hh;exfalso;omega)|rfl|(rw[IntKind.wrap_i64];omega)|simp|(simp;omega)
      try simp only[Act.put,List.setIfInBounds_toArray,List.set_cons_zero,List.set_cons_succ,vva28_16]
      refine wpAnyH_take (i:=17) (oi:=vva28_17) (v:=.slice (some ⟨g,o,none⟩) NL ql) rfl (by kernel_rfl) (by kernel_rfl) (by kernel_rfl) (fun _ _ _ h=>h) (Or.inl ⟨by kernel_rfl,?_⟩) (t0) ?_
      ·intro w hSw;go_simp<;>first|omega|(intro hh;exfalso;omega)|rfl|(rw[IntKind.wrap_i64];omega)|simp|(simp;omega)
      try simp only[Act.put,List.setIfInBounds_toArray,List.set_cons_zero,List.set_cons_succ,vva28_17]
      refine wpAnyH_take (i:=18) (oi:=vva28_18) (v:=.int .i64 0) rfl (by kernel_rfl) (by kernel_rfl) (by kernel_rfl) (fun _ _ _ h=>h) (Or.inl ⟨by kernel_rfl,?_⟩) (t0) ?_
      ·intro w hSw;go_simp<;>first|omega|(intro hh;exfalso;omega)|rfl|(rw[IntKind.wrap_i64];omega)|simp|(simp;omega)
      try simp only[Act.put,List.setIfInBounds_toArray,List.set_cons_zero,List.set_cons_succ,vva28_18]
      refine wpAnyH_take (i:=19) (oi:=vva28_19) (v:=.pointer (some ⟨g,o,none⟩)) rfl (by kernel_rfl) (by kernel_rfl) (by kernel_rfl) (fun _ _ _ h=>h) (Or.inl ⟨by kernel_rfl,?_⟩) (t0) ?_
      ·intro w hSw;go_simp<;>first|omega|(intro hh;exfalso;omega)|rfl|(rw[IntKind.wrap_i64];omega)|simp|(simp;omega)
      try simp only[Act.put,List.setIfInBounds_toArray,List.set_cons_zero,List.set_cons_succ,vva28_19]
      refine wpAnyH_take (i:=20) (oi:=vva28_20) (v:=.pointer (some ⟨g,o+1,none⟩)) rfl (by kernel_rfl) (by kernel_rfl) (by kernel_rfl) (fun _ _ _ h=>h) (Or.inl ⟨by kernel_rfl,?_⟩) (t0) ?_
      ·intro w hSw;go_simp<;>first|omega|(intro hh;exfalso;omega)|rfl|(rw[IntKind.wrap_i64];omega)|simp|(simp;omega)
      try simp only[Act.put,List.setIfInBounds_toArray,List.set_cons_zero,List.set_cons_succ,vva28_20]
      refine wpAnyH_take (i:=21) (oi:=vva28_21) (v:=.string ⟨TL.toArray⟩) rfl (by kernel_rfl) (by kernel_rfl) (by kernel_rfl) (fun _ _ _ h=>h) (Or.inl ⟨by kernel_rfl,?_⟩) (t0) ?_
      ·intro w hSw;obtain ⟨e0,e1⟩:=KP0.out w hSw;go_simp<;>first|omega|(intro hh;exfalso;omega)|rfl|(rw[IntKind.wrap_i64];omega)|simp|(simp;omega)
      try simp only[Act.put,List.setIfInBounds_toArray,List.set_cons_zero,List.set_cons_succ,vva28_21]
      refine wpAnyH_take (i:=22) (oi:=vva28_22) (v:=.bool false) rfl (by kernel_rfl) (by kernel_rfl) (by kernel_rfl) (fun _ _ _ h=>h) (Or.inl ⟨by kernel_rfl,?_⟩) (t0) ?_
      ·intro w hSw;go_simp<;>first|omega|(intro hh;exfalso;omega)|rfl|(rw[IntKind.wrap_i64];omega)|simp|(simp;omega)
      try simp only[Act.put,List.setIfInBounds_toArray,List.set_cons_zero,List.set_cons_succ,vva28_22]
      refine wpAnyH_take (i:=23) (oi:=vva28_23) (v:=.bool false) rfl (by kernel_rfl) (by kernel_rfl) (by kernel_rfl) (fun _ _ _ h=>h) (Or.inl ⟨by kernel_rfl,?_⟩) (t0) ?_
      ·intro w hSw;go_simp<;>first|omega|(intro hh;exfalso;omega)|rfl|(rw[IntKind.wrap_i64];omega)|simp|(simp;omega)
      try simp only[Act.put,List.setIfInBounds_toArray,List.set_cons_zero,List.set_cons_succ,vva28_23]
      refine wpAnyH_take (i:=24) (oi:=vva28_24) (v:=.bool false) rfl (by kernel_rfl) (by kernel_rfl) (by kernel_rfl) (fun _ _ _ h=>h) (Or.inl ⟨by kernel_rfl,?_⟩) (t0) ?_
      ·intro w hSw;go_simp<;>first|omega|(intro hh;exfalso;omega)|rfl|(rw[IntKind.wrap_i64];omega)|simp|(simp;omega)
      try simp only[Act.put,List.setIfInBounds_toArray,List.set_cons_zero,List.set_cons_succ,vva28_24]
      refine wpAnyH_take (i:=25) (oi:=vva28_25) (v:=.pointer bs) rfl (by kernel_rfl) (by kernel_rfl) (by kernel_rfl) (fun _ _ _ h=>h) (Or.inl ⟨by kernel_rfl,?_⟩) (t0) ?_
      ·intro w hSw;go_simp<;>first|omega|(intro hh;exfalso;omega)|rfl|(rw[IntKind.wrap_i64];omega)|simp|(simp;omega)
      try simp only[Act.put,List.setIfInBounds_toArray,List.set_cons_zero,List.set_cons_succ,vva28_25]
      refine wpAnyH_take (i:=26) (oi:=vva28_26) (v:=.slice (some ⟨g,o,none⟩) NL ql) rfl (by kernel_rfl) (by kernel_rfl) (by kernel_rfl) (fun _ _ _ h=>h) (Or.inl ⟨by kernel_rfl,?_⟩) (t0) ?_
      ·intro w hSw;go_simp<;>first|omega|(intro hh;exfalso;omega)|rfl|(rw[IntKind.wrap_i64];omega)|simp|(simp;omega)
      try simp only[Act.put,List.setIfInBounds_toArray,List.set_cons_zero,List.set_cons_succ,vva28_26]
      refine wpAnyH_take (i:=27) (oi:=vva28_27) (v:=.int .i64 0) rfl (by kernel_rfl) (by kernel_rfl) (by kernel_rfl) (fun _ _ _ h=>h) (Or.inl ⟨by kernel_rfl,?_⟩) (t0) ?_
      ·intro w hSw;go_simp<;>first|omega|(intro hh;exfalso;omega)|rfl|(rw[IntKind.wrap_i64];omega)|simp|(simp;omega)
      try simp only[Act.put,List.setIfInBounds_toArray,List.set_cons_zero,List.set_cons_succ,vva28_27]
      refine wpAnyH_take (i:=28) (oi:=vva28_28) (v:=.pointer (some ⟨g,o,none⟩)) rfl (by kernel_rfl) (by kernel_rfl) (by kernel_rfl) (fun _ _ _ h=>h) (Or.inl ⟨by kernel_rfl,?_⟩) (t0) ?_
      ·intro w hSw;go_simp<;>first|omega|(intro hh;exfalso;omega)|rfl|(rw[IntKind.wrap_i64];omega)|simp|(simp;omega)
      try simp only[Act.put,List.setIfInBounds_toArray,List.set_cons_zero,List.set_cons_succ,vva28_28]
      refine wpAnyH_take (i:=29) (oi:=vva28_29) (v:=.pointer (some ⟨g,o,none⟩)) rfl (by kernel_rfl) (by kernel_rfl) (by kernel_rfl) (fun _ _ _ h=>h) (Or.inl ⟨by kernel_rfl,?_⟩) (t0) ?_
      ·intro w hSw;go_simp<;>first|omega|(intro hh;exfalso;omega)|rfl|(rw[IntKind.wrap_i64];omega)|simp|(simp;omega)
      try simp only[Act.put,List.setIfInBounds_toArray,List.set_cons_zero,List.set_cons_succ,vva28_29]
      refine wpAnyH_take (i:=30) (oi:=vva28_30) (v:=.int .i64 p.1) rfl (by kernel_rfl) (by kernel_rfl) (by kernel_rfl) (fun _ _ _ h=>h) (Or.inl ⟨by kernel_rfl,?_⟩) (t0) ?_
      ·intro w hSw;obtain ⟨e0,e1⟩:=KP0.out w hSw;go_simp<;>first|omega|(intro hh;exfalso;omega)|rfl|(rw[IntKind.wrap_i64];omega)|simp|(simp;omega)
      try simp only[Act.put,List.setIfInBounds_toArray,List.set_cons_zero,List.set_cons_succ,vva28_30]
      refine wpAnyH_take (i:=33) (oi:=vva28_33) (v:=.slice (some ⟨g,o,none⟩) NL ql) rfl (by kernel_rfl) (by kernel_rfl) (by kernel_rfl) (fun _ _ _ h=>h) (Or.inl ⟨by kernel_rfl,?_⟩) (t0) ?_
      ·intro w hSw;go_simp<;>first|omega|(intro hh;exfalso;omega)|rfl|(rw[IntKind.wrap_i64];omega)|simp|(simp;omega)
      try simp only[Act.put,List.setIfInBounds_toArray,List.set_cons_zero,List.set_cons_succ,vva28_33]
      refine wpAnyH_take (i:=34) (oi:=vva28_34) (v:=.int .i64 0) rfl (by kernel_rfl) (by kernel_rfl) (by kernel_rfl) (fun _ _ _ h=>h) (Or.inl ⟨by kernel_rfl,?_⟩) (t0) ?_
      ·intro w hSw;go_simp<;>first|omega|(intro hh;exfalso;omega)|rfl|(rw[IntKind.wrap_i64];omega)|simp|(simp;omega)
      try simp only[Act.put,List.setIfInBounds_toArray,List.set_cons_zero,List.set_cons_succ,vva28_34]
      refine wpAnyH_take (i:=35) (oi:=vva28_35) (v:=.pointer (some ⟨g,o,none⟩)) rfl (by kernel_rfl) (by kernel_rfl) (by kernel_rfl) (fun _ _ _ h=>h) (Or.inl ⟨by kernel_rfl,?_⟩) (t0) ?_
      ·intro w hSw;go_simp<;>first|omega|(intro hh;exfalso;omega)|rfl|(rw[IntKind.wrap_i64];omega)|simp|(simp;omega)
      try simp only[Act.put,List.setIfInBounds_toArray,List.set_cons_zero,List.set_cons_succ,vva28_35]
      refine wpAnyH_take (i:=36) (oi:=vva28_36) (v:=.pointer (some ⟨g,o+1,none⟩)) rfl (by kernel_rfl) (by kernel_rfl) (by kernel_rfl) (fun _ _ _ h=>h) (Or.inl ⟨by kernel_rfl,?_⟩) (t0) ?_
      ·intro w hSw;go_simp<;>first|omega|(intro hh;exfalso;omega)|rfl|(rw[IntKind.wrap_i64];omega)|simp|(simp;omega)
      try simp only[Act.put,List.setIfInBounds_toArray,List.set_cons_zero,List.set_cons_succ,vva28_36]
      refine wpAnyH_take (i:=37) (oi:=vva28_37) (v:=.string ⟨TL.toArray⟩) rfl (by kernel_rfl) (by kernel_rfl) (by kernel_rfl) (fun _ _ _ h=>h) (Or.inl ⟨by kernel_rfl,?_⟩) (t0) ?_
      ·intro w hSw;obtain ⟨e0,e1⟩:=KP0.out w hSw;go_simp<;>first|omega|(intro hh;exfalso;omega)|rfl|(rw[IntKind.wrap_i64];omega)|simp|(simp;omega)
      try simp only[Act.put,List.setIfInBounds_toArray,List.set_cons_zero,List.set_cons_succ,vva28_37]
      refine wpAnyH_ready (rs:=[31]) (by kernel_rfl) (by simp) ?_
      apply AllReadyH.cons (o:=vva28_31) (by kernel_rfl)
      case hs=>exact AllReadyH.nil
      intro K hK
      simp only[vva28_31]
      go_simp
      go_at_call 16
      refine (CV.out _ t0).mono ?_
      rintro e' V1 ⟨v1,rfl,hv1,d1⟩
      have t1:=below_seq t0 d1
      have HV1:=Lib.hid hv1
      obtain ⟨p1,rfl⟩:=hv1.ptr
      clear hv1
      refine hK.out _ _ (t1) (fun hHeld=>?_)
      clear hK K hHeld
      try simp only[Act.put,List.setIfInBounds_toArray,List.set_cons_zero,List.set_cons_succ]
      refine wpAnyH_ready (rs:=[32]) (by kernel_rfl) (by simp) ?_
      apply AllReadyH.cons (o:=vva28_32) (by kernel_rfl)
      case hs=>exact AllReadyH.nil
      intro K hK
      simp only[vva28_32]
      go_simp
      go_at_call 10
      refine (CX.out _ _ t1 HV1.out).mono ?_
      rintro e' V2 ⟨rfl,d2⟩
      have t2:=below_seq t1 d2
      refine hK.out _ _ (t2) (fun hHeld=>?_)
      clear hK K hHeld
      try simp only[Act.put,List.setIfInBounds_toArray,List.set_cons_zero,List.set_cons_succ]
      refine wpAnyH_take (i:=38) (oi:=vva28_38) (v:=.bool false) rfl (by kernel_rfl) (by kernel_rfl) (by kernel_rfl) (fun _ _ _ h=>h) (Or.inl ⟨by kernel_rfl,?_⟩) (t2) ?_
      ·intro w hSw;go_simp<;>first|omega|(intro hh;exfalso;omega)|rfl|(rw[IntKind.wrap_i64];omega)|simp|(simp;omega)
      try simp only[Act.put,List.setIfInBounds_toArray,List.set_cons_zero,List.set_cons_succ,vva28_38]
      refine wpAnyH_take (i:=39) (oi:=vva28_39) (v:=.bool false) rfl (by kernel_rfl) (by kernel_rfl) (by kernel_rfl) (fun _ _ _ h=>h) (Or.inl ⟨by kernel_rfl,?_⟩) (t2) ?_
      ·intro w hSw;go_simp<;>first|omega|(intro hh;exfalso;omega)|rfl|(rw[IntKind.wrap_i64];omega)|simp|(simp;omega)
      try simp only[Act.put,List.setIfInBounds_toArray,List.set_cons_zero,List.set_cons_succ,vva28_39]
      refine wpAnyH_done (by kernel_rfl) ?_ _
      have ZZ:=Lib.hid (below_seq hbx t2)
      go_wp2_with fail
      go_roundw
      case rel=>exact ⟨0+1,by go_num,by omega,ZZ.out⟩
      case measure=>simp[intOf];omega
     ·obtain ⟨jj,rfl⟩:∃ jj,j=jj+1:=⟨j - 1,by omega⟩
      obtain ⟨p',hp'⟩:∃ p,mg[jj]?=some p:=⟨mg[jj]'(by have:=HNL.out;omega),by simp[← HNL.out,show jj<NL by omega]⟩
      obtain ⟨g',o',hgo,hc1',_⟩:=HL.out jj p' hp'
      injection hgo with hgo
      injection hgo with hg' ho'
      subst hg';subst ho'
      have hlt:p'.1<p.1:=by
       have h1:=List.pairwise_iff_getElem.1 MR.out jj (jj+1) (by have:=HNL.out;omega) (by have:=HNL.out;omega) (by omega)
       rw[(List.getElem?_eq_some_iff.1 hp').2,(List.getElem?_eq_some_iff.1 hp).2]at h1
       exact h1
      have KP':Hid (∀ X:World,Below wr.heap.size wr X→X.cell? ⟨g,o+jj*2,none⟩=some (.int .i64 p'.1)):=Lib.hid fun X h=>cell_keep hc1' (below_seq hbx h)
      have hsub:(((jj+1:Nat):Int) - 1)=(jj:Int):=by omega
      have hge:¬ p'.1≥p.1:=by omega
      clear hp hpm hp' hc1' hlt
      go_wp2_with fail
      refine wp_region_held (S:=fun X:World=>Below wr.heap.size wr X) (by kernel_rfl) ?_
      change wpAnyH _ _ _ _ _ _ _ _ (World.drew _)
      obtain ⟨V0,hV0⟩:∃ X,X=(wr).drew:=⟨_,rfl⟩
      rw[← hV0]
      have t0:Below (wr).heap.size (wr) V0:=by rw[hV0];exact Below.drewN_ (Below.refl _ _) 1
      clear hV0
      refine wpAnyH_take (i:=0) (oi:=vva28_0) (v:=.int .i64 ((jj+1:Nat):Int)) rfl (by kernel_rfl) (by kernel_rfl) (by kernel_rfl) (fun _ _ _ h=>h) (Or.inl ⟨by kernel_rfl,?_⟩) (t0) ?_
      ·intro w hSw;go_simp<;>first|omega|(intro hh;exfalso;omega)|rfl|(rw[IntKind.wrap_i64];omega)|simp|(simp;omega)
      try simp only[Act.put,List.setIfInBounds_toArray,List.set_cons_zero,List.set_cons_succ,vva28_0]
      refine wpAnyH_take (i:=1) (oi:=vva28_1) (v:=.bool true) rfl (by kernel_rfl) (by kernel_rfl) (by kernel_rfl) (fun _ _ _ h=>h) (Or.inl ⟨by kernel_rfl,?_⟩) (t0) ?_
      ·intro w hSw;go_simp<;>first|omega|(intro hh;exfalso;omega)|rfl|(rw[IntKind.wrap_i64];omega)|simp|(simp;omega)
      try simp only[Act.put,List.setIfInBounds_toArray,List.set_cons_zero,List.set_cons_succ,vva28_1]
      refine wpAnyH_take (i:=2) (oi:=vva28_2) (v:=.bool true) rfl (by kernel_rfl) (by kernel_rfl) (by kernel_rfl) (fun _ _ _ h=>h) (Or.inl ⟨by kernel_rfl,?_⟩) (t0) ?_
      ·intro w hSw;go_simp<;>first|omega|(intro hh;exfalso;omega)|rfl|(rw[IntKind.wrap_i64];omega)|simp|(simp;omega)
      try simp only[Act.put,List.setIfInBounds_toArray,List.set_cons_zero,List.set_cons_succ,vva28_2]
      refine wpAnyH_take (i:=3) (oi:=vva28_3) (v:=.slice (some ⟨g,o,none⟩) NL ql) rfl (by kernel_rfl) (by kernel_rfl) (by kernel_rfl) (fun _ _ _ h=>h) (Or.inl ⟨by kernel_rfl,?_⟩) (t0) ?_
      ·intro w hSw;go_simp<;>first|omega|(intro hh;exfalso;omega)|rfl|(rw[IntKind.wrap_i64];omega)|simp|(simp;omega)
      try simp only[Act.put,List.setIfInBounds_toArray,List.set_cons_zero,List.set_cons_succ,vva28_3]
      refine wpAnyH_take (i:=4) (oi:=vva28_4) (v:=.int .i64 ((jj+1:Nat):Int)) rfl (by kernel_rfl) (by kernel_rfl) (by kernel_rfl) (fun _ _ _ h=>h) (Or.inl ⟨by kernel_rfl,?_⟩) (t0) ?_
      ·intro w hSw;go_simp<;>first|omega|(intro hh;exfalso;omega)|rfl|(rw[IntKind.wrap_i64];omega)|simp|(simp;omega)
      try simp only[Act.put,List.setIfInBounds_toArray,List.set_cons_zero,List.set_cons_succ,vva28_4]
      refine wpAnyH_take (i:=5) (oi:=vva28_5) (v:=.int .i64 jj) rfl (by kernel_rfl) (by kernel_rfl) (by kernel_rfl) (fun _ _ _ h=>h) (Or.inl ⟨by kernel_rfl,?_⟩) (t0) ?_
      ·intro w hSw;go_simp<;>first|omega|(intro hh;exfalso;omega)|rfl|(rw[IntKind.wrap_i64];omega)|simp|(simp;omega)
      try simp only[Act.put,List.setIfInBounds_toArray,List.set_cons_zero,List.set_cons_succ,vva28_5]
      refine wpAnyH_take (i:=6) (oi:=vva28_6) (v:=.pointer (some ⟨g,o+jj*2,none⟩)) rfl (by kernel_rfl) (by kernel_rfl) (by kernel_rfl) (fun _ _ _ h=>h) (Or.inl ⟨by kernel_rfl,?_⟩) (t0) ?_
      ·intro w hSw;go_simp<;>first|omega|(intro hh;exfalso;omega)|rfl|(rw[IntKind.wrap_i64];omega)|simp|(simp;omega)
      try simp only[Act.put,List.setIfInBounds_toArray,List.set_cons_zero,List.set_cons_succ,vva28_6]
      refine wpAnyH_take (i:=7) (oi:=vva28_7) (v:=.pointer (some ⟨g,o+jj*2,none⟩)) rfl (by kernel_rfl) (by kernel_rfl) (by kernel_rfl) (fun _ _ _ h=>h) (Or.inl ⟨by kernel_rfl,?_⟩) (t0) ?_
      ·intro w hSw;go_simp<;>first|omega|(intro hh;exfalso;omega)|rfl|(rw[IntKind.wrap_i64];omega)|simp|(simp;omega)
      try simp only[Act.put,List.setIfInBounds_toArray,List.set_cons_zero,List.set_cons_succ,vva28_7]
      refine wpAnyH_take (i:=8) (oi:=vva28_8) (v:=.int .i64 p'.1) rfl (by kernel_rfl) (by kernel_rfl) (by kernel_rfl) (fun _ _ _ h=>h) (Or.inl ⟨by kernel_rfl,?_⟩) (t0) ?_
      ·intro w hSw;have e2:=KP'.out w hSw;obtain ⟨e0,e1⟩:=KP.out w hSw;go_simp<;>first|omega|(intro hh;exfalso;omega)|rfl|(rw[IntKind.wrap_i64];omega)|simp|(simp;omega)
      try simp only[Act.put,List.setIfInBounds_toArray,List.set_cons_zero,List.set_cons_succ,vva28_8]
      refine wpAnyH_take (i:=9) (oi:=vva28_9) (v:=.slice (some ⟨g,o,none⟩) NL ql) rfl (by kernel_rfl) (by kernel_rfl) (by kernel_rfl) (fun _ _ _ h=>h) (Or.inl ⟨by kernel_rfl,?_⟩) (t0) ?_
      ·intro w hSw;go_simp<;>first|omega|(intro hh;exfalso;omega)|rfl|(rw[IntKind.wrap_i64];omega)|simp|(simp;omega)
      try simp only[Act.put,List.setIfInBounds_toArray,List.set_cons_zero,List.set_cons_succ,vva28_9]
      refine wpAnyH_take (i:=10) (oi:=vva28_10) (v:=.int .i64 ((jj+1:Nat):Int)) rfl (by kernel_rfl) (by kernel_rfl) (by kernel_rfl) (fun _ _ _ h=>h) (Or.inl ⟨by kernel_rfl,?_⟩) (t0) ?_
      ·intro w hSw;go_simp<;>first|omega|(intro hh;exfalso;omega)|rfl|(rw[IntKind.wrap_i64];omega)|simp|(simp;omega)
      try simp only[Act.put,List.setIfInBounds_toArray,List.set_cons_zero,List.set_cons_succ,vva28_10]
      refine wpAnyH_take (i:=11) (oi:=vva28_11) (v:=.pointer (some ⟨g,o+(jj+1)*2,none⟩)) rfl (by kernel_rfl) (by kernel_rfl) (by kernel_rfl) (fun _ _ _ h=>h) (Or.inl ⟨by kernel_rfl,?_⟩) (t0) ?_
      ·intro w hSw;go_simp<;>first|omega|(intro hh;exfalso;omega)|rfl|(rw[IntKind.wrap_i64];omega)|simp|(simp;omega)
      try simp only[Act.put,List.setIfInBounds_toArray,List.set_cons_zero,List.set_cons_succ,vva28_11]
      refine wpAnyH_take (i:=12) (oi:=vva28_12) (v:=.pointer (some ⟨g,o+(jj+1)*2,none⟩)) rfl (by kernel_rfl) (by kernel_rfl) (by kernel_rfl) (fun _ _ _ h=>h) (Or.inl ⟨by kernel_rfl,?_⟩) (t0) ?_
      ·intro w hSw;go_simp<;>first|omega|(intro hh;exfalso;omega)|rfl|(rw[IntKind.wrap_i64];omega)|simp|(simp;omega)
      try simp only[Act.put,List.setIfInBounds_toArray,List.set_cons_zero,List.set_cons_succ,vva28_12]
      refine wpAnyH_take (i:=13) (oi:=vva28_13) (v:=.int .i64 p.1) rfl (by kernel_rfl) (by kernel_rfl) (by kernel_rfl) (fun _ _ _ h=>h) (Or.inl ⟨by kernel_rfl,?_⟩) (t0) ?_
      ·intro w hSw;obtain ⟨e0,e1⟩:=KP.out w hSw;go_simp<;>first|omega|(intro hh;exfalso;omega)|rfl|(rw[IntKind.wrap_i64];omega)|simp|(simp;omega)
      try simp only[Act.put,List.setIfInBounds_toArray,List.set_cons_zero,List.set_cons_succ,vva28_13]
      refine wpAnyH_take (i:=14) (oi:=vva28_14) (v:=.bool false) rfl (by kernel_rfl) (by kernel_rfl) (by kernel_rfl) (fun _ _ _ h=>h) (Or.inl ⟨by kernel_rfl,?_⟩) (t0) ?_
      ·intro w hSw;go_simp<;>first|omega|(intro hh;exfalso;omega)|rfl|(rw[IntKind.wrap_i64];omega)|simp|(simp;omega)
      try simp only[Act.put,List.setIfInBounds_toArray,List.set_cons_zero,List.set_cons_succ,vva28_14]
      refine wpAnyH_take (i:=15) (oi:=vva28_15) (v:=.bool false) rfl (by kernel_rfl) (by kernel_rfl) (by kernel_rfl) (fun _ _ _ h=>h) (Or.inl ⟨by kernel_rfl,?_⟩) (t0) ?_
      ·intro w hSw;go_simp<;>first|omega|(intro hh;exfalso;omega)|rfl|(rw[IntKind.wrap_i64];omega)|simp|(simp;omega)
      try simp only[Act.put,List.setIfInBounds_toArray,List.set_cons_zero,List.set_cons_succ,vva28_15]
      refine wpAnyH_take (i:=16) (oi:=vva28_16) (v:=.bool false) rfl (by kernel_rfl) (by kernel_rfl) (by kernel_rfl) (fun _ _ _ h=>h) (Or.inl ⟨by kernel_rfl,?_⟩) (t0) ?_
      ·intro w hSw;go_simp<;>first|omega|(intro hh;exfalso;omega)|rfl|(rw[IntKind.wrap_i64];omega)|simp|(simp;omega)
      try simp only[Act.put,List.setIfInBounds_toArray,List.set_cons_zero,List.set_cons_succ,vva28_16]
      refine wpAnyH_take (i:=17) (oi:=vva28_17) (v:=.slice (some ⟨g,o,none⟩) NL ql) rfl (by kernel_rfl) (by kernel_rfl) (by kernel_rfl) (fun _ _ _ h=>h) (Or.inl ⟨by kernel_rfl,?_⟩) (t0) ?_
      ·intro w hSw;go_simp<;>first|omega|(intro hh;exfalso;omega)|rfl|(rw[IntKind.wrap_i64];omega)|simp|(simp;omega)
      try simp only[Act.put,List.setIfInBounds_toArray,List.set_cons_zero,List.set_cons_succ,vva28_17]
      refine wpAnyH_take (i:=18) (oi:=vva28_18) (v:=.int .i64 ((jj+1:Nat):Int)) rfl (by kernel_rfl) (by kernel_rfl) (by kernel_rfl) (fun _ _ _ h=>h) (Or.inl ⟨by kernel_rfl,?_⟩) (t0) ?_
      ·intro w hSw;go_simp<;>first|omega|(intro hh;exfalso;omega)|rfl|(rw[IntKind.wrap_i64];omega)|simp|(simp;omega)
      try simp only[Act.put,List.setIfInBounds_toArray,List.set_cons_zero,List.set_cons_succ,vva28_18]
      refine wpAnyH_take (i:=19) (oi:=vva28_19) (v:=.pointer (some ⟨g,o+(jj+1)*2,none⟩)) rfl (by kernel_rfl) (by kernel_rfl) (by kernel_rfl) (fun _ _ _ h=>h) (Or.inl ⟨by kernel_rfl,?_⟩) (t0) ?_
      ·intro w hSw;go_simp<;>first|omega|(intro hh;exfalso;omega)|rfl|(rw[IntKind.wrap_i64];omega)|simp|(simp;omega)
      try simp only[Act.put,List.setIfInBounds_toArray,List.set_cons_zero,List.set_cons_succ,vva28_19]
      refine wpAnyH_take (i:=20) (oi:=vva28_20) (v:=.pointer (some ⟨g,o+(jj+1)*2+1,none⟩)) rfl (by kernel_rfl) (by kernel_rfl) (by kernel_rfl) (fun _ _ _ h=>h) (Or.inl ⟨by kernel_rfl,?_⟩) (t0) ?_
      ·intro w hSw;go_simp<;>first|omega|(intro hh;exfalso;omega)|rfl|(rw[IntKind.wrap_i64];omega)|simp|(simp;omega)
      try simp only[Act.put,List.setIfInBounds_toArray,List.set_cons_zero,List.set_cons_succ,vva28_20]
      refine wpAnyH_take (i:=21) (oi:=vva28_21) (v:=.string ⟨TL.toArray⟩) rfl (by kernel_rfl) (by kernel_rfl) (by kernel_rfl) (fun _ _ _ h=>h) (Or.inl ⟨by kernel_rfl,?_⟩) (t0) ?_
      ·intro w hSw;obtain ⟨e0,e1⟩:=KP.out w hSw;go_simp<;>first|omega|(intro hh;exfalso;omega)|rfl|(rw[IntKind.wrap_i64];omega)|simp|(simp;omega)
      try simp only[Act.put,List.setIfInBounds_toArray,List.set_cons_zero,List.set_cons_succ,vva28_21]
      refine wpAnyH_take (i:=22) (oi:=vva28_22) (v:=.bool false) rfl (by kernel_rfl) (by kernel_rfl) (by kernel_rfl) (fun _ _ _ h=>h) (Or.inl ⟨by kernel_rfl,?_⟩) (t0) ?_
      ·intro w hSw;go_simp<;>first|omega|(intro hh;exfalso;omega)|rfl|(rw[IntKind.wrap_i64];omega)|simp|(simp;omega)
      try simp only[Act.put,List.setIfInBounds_toArray,List.set_cons_zero,List.set_cons_succ,vva28_22]
      refine wpAnyH_take (i:=23) (oi:=vva28_23) (v:=.bool false) rfl (by kernel_rfl) (by kernel_rfl) (by kernel_rfl) (fun _ _ _ h=>h) (Or.inl ⟨by kernel_rfl,?_⟩) (t0) ?_
      ·intro w hSw;go_simp<;>first|omega|(intro hh;exfalso;omega)|rfl|(rw[IntKind.wrap_i64];omega)|simp|(simp;omega)
      try simp only[Act.put,List.setIfInBounds_toArray,List.set_cons_zero,List.set_cons_succ,vva28_23]
      refine wpAnyH_take (i:=24) (oi:=vva28_24) (v:=.bool false) rfl (by kernel_rfl) (by kernel_rfl) (by kernel_rfl) (fun _ _ _ h=>h) (Or.inl ⟨by kernel_rfl,?_⟩) (t0) ?_
      ·intro w hSw;go_simp<;>first|omega|(intro hh;exfalso;omega)|rfl|(rw[IntKind.wrap_i64];omega)|simp|(simp;omega)
      try simp only[Act.put,List.setIfInBounds_toArray,List.set_cons_zero,List.set_cons_succ,vva28_24]
      refine wpAnyH_take (i:=25) (oi:=vva28_25) (v:=.pointer bs) rfl (by kernel_rfl) (by kernel_rfl) (by kernel_rfl) (fun _ _ _ h=>h) (Or.inl ⟨by kernel_rfl,?_⟩) (t0) ?_
      ·intro w hSw;go_simp<;>first|omega|(intro hh;exfalso;omega)|rfl|(rw[IntKind.wrap_i64];omega)|simp|(simp;omega)
      try simp only[Act.put,List.setIfInBounds_toArray,List.set_cons_zero,List.set_cons_succ,vva28_25]
      refine wpAnyH_take (i:=26) (oi:=vva28_26) (v:=.slice (some ⟨g,o,none⟩) NL ql) rfl (by kernel_rfl) (by kernel_rfl) (by kernel_rfl) (fun _ _ _ h=>h) (Or.inl ⟨by kernel_rfl,?_⟩) (t0) ?_
      ·intro w hSw;go_simp<;>first|omega|(intro hh;exfalso;omega)|rfl|(rw[IntKind.wrap_i64];omega)|simp|(simp;omega)
      try simp only[Act.put,List.setIfInBounds_toArray,List.set_cons_zero,List.set_cons_succ,vva28_26]
      refine wpAnyH_take (i:=27) (oi:=vva28_27) (v:=.int .i64 ((jj+1:Nat):Int)) rfl (by kernel_rfl) (by kernel_rfl) (by kernel_rfl) (fun _ _ _ h=>h) (Or.inl ⟨by kernel_rfl,?_⟩) (t0) ?_
      ·intro w hSw;go_simp<;>first|omega|(intro hh;exfalso;omega)|rfl|(rw[IntKind.wrap_i64];omega)|simp|(simp;omega)
      try simp only[Act.put,List.setIfInBounds_toArray,List.set_cons_zero,List.set_cons_succ,vva28_27]
      refine wpAnyH_take (i:=28) (oi:=vva28_28) (v:=.pointer (some ⟨g,o+(jj+1)*2,none⟩)) rfl (by kernel_rfl) (by kernel_rfl) (by kernel_rfl) (fun _ _ _ h=>h) (Or.inl ⟨by kernel_rfl,?_⟩) (t0) ?_
      ·intro w hSw;go_simp<;>first|omega|(intro hh;exfalso;omega)|rfl|(rw[IntKind.wrap_i64];omega)|simp|(simp;omega)
      try simp only[Act.put,List.setIfInBounds_toArray,List.set_cons_zero,List.set_cons_succ,vva28_28]
      refine wpAnyH_take (i:=29) (oi:=vva28_29) (v:=.pointer (some ⟨g,o+(jj+1)*2,none⟩)) rfl (by kernel_rfl) (by kernel_rfl) (by kernel_rfl) (fun _ _ _ h=>h) (Or.inl ⟨by kernel_rfl,?_⟩) (t0) ?_
      ·intro w hSw;go_simp<;>first|omega|(intro hh;exfalso;omega)|rfl|(rw[IntKind.wrap_i64];omega)|simp|(simp;omega)
      try simp only[Act.put,List.setIfInBounds_toArray,List.set_cons_zero,List.set_cons_succ,vva28_29]
      refine wpAnyH_take (i:=30) (oi:=vva28_30) (v:=.int .i64 p.1) rfl (by kernel_rfl) (by kernel_rfl) (by kernel_rfl) (fun _ _ _ h=>h) (Or.inl ⟨by kernel_rfl,?_⟩) (t0) ?_
      ·intro w hSw;obtain ⟨e0,e1⟩:=KP.out w hSw;go_simp<;>first|omega|(intro hh;exfalso;omega)|rfl|(rw[IntKind.wrap_i64];omega)|simp|(simp;omega)
      try simp only[Act.put,List.setIfInBounds_toArray,List.set_cons_zero,List.set_cons_succ,vva28_30]
      refine wpAnyH_take (i:=33) (oi:=vva28_33) (v:=.slice (some ⟨g,o,none⟩) NL ql) rfl (by kernel_rfl) (by kernel_rfl) (by kernel_rfl) (fun _ _ _ h=>h) (Or.inl ⟨by kernel_rfl,?_⟩) (t0) ?_
      ·intro w hSw;go_simp<;>first|omega|(intro hh;exfalso;omega)|rfl|(rw[IntKind.wrap_i64];omega)|simp|(simp;omega)
      try simp only[Act.put,List.setIfInBounds_toArray,List.set_cons_zero,List.set_cons_succ,vva28_33]
      refine wpAnyH_take (i:=34) (oi:=vva28_34) (v:=.int .i64 ((jj+1:Nat):Int)) rfl (by kernel_rfl) (by kernel_rfl) (by kernel_rfl) (fun _ _ _ h=>h) (Or.inl ⟨by kernel_rfl,?_⟩) (t0) ?_
      ·intro w hSw;go_simp<;>first|omega|(intro hh;exfalso;omega)|rfl|(rw[IntKind.wrap_i64];omega)|simp|(simp;omega)
      try simp only[Act.put,List.setIfInBounds_toArray,List.set_cons_zero,List.set_cons_succ,vva28_34]
      refine wpAnyH_take (i:=35) (oi:=vva28_35) (v:=.pointer (some ⟨g,o+(jj+1)*2,none⟩)) rfl (by kernel_rfl) (by kernel_rfl) (by kernel_rfl) (fun _ _ _ h=>h) (Or.inl ⟨by kernel_rfl,?_⟩) (t0) ?_
      ·intro w hSw;go_simp<;>first|omega|(intro hh;exfalso;omega)|rfl|(rw[IntKind.wrap_i64];omega)|simp|(simp;omega)
      try simp only[Act.put,List.setIfInBounds_toArray,List.set_cons_zero,List.set_cons_succ,vva28_35]
      refine wpAnyH_take (i:=36) (oi:=vva28_36) (v:=.pointer (some ⟨g,o+(jj+1)*2+1,none⟩)) rfl (by kernel_rfl) (by kernel_rfl) (by kernel_rfl) (fun _ _ _ h=>h) (Or.inl ⟨by kernel_rfl,?_⟩) (t0) ?_
      ·intro w hSw;go_simp<;>first|omega|(intro hh;exfalso;omega)|rfl|(rw[IntKind.wrap_i64];omega)|simp|(simp;omega)
      try simp only[Act.put,List.setIfInBounds_toArray,List.set_cons_zero,List.set_cons_succ,vva28_36]
      refine wpAnyH_take (i:=37) (oi:=vva28_37) (v:=.string ⟨TL.toArray⟩) rfl (by kernel_rfl) (by kernel_rfl) (by kernel_rfl) (fun _ _ _ h=>h) (Or.inl ⟨by kernel_rfl,?_⟩) (t0) ?_
      ·intro w hSw;obtain ⟨e0,e1⟩:=KP.out w hSw;go_simp<;>first|omega|(intro hh;exfalso;omega)|rfl|(rw[IntKind.wrap_i64];omega)|simp|(simp;omega)
      try simp only[Act.put,List.setIfInBounds_toArray,List.set_cons_zero,List.set_cons_succ,vva28_37]
      refine wpAnyH_ready (rs:=[31]) (by kernel_rfl) (by simp) ?_
      apply AllReadyH.cons (o:=vva28_31) (by kernel_rfl)
      case hs=>exact AllReadyH.nil
      intro K hK
      simp only[vva28_31]
      go_simp
      go_at_call 16
      refine (CV.out _ t0).mono ?_
      rintro e' V1 ⟨v1,rfl,hv1,d1⟩
      have t1:=below_seq t0 d1
      have HV1:=Lib.hid hv1
      obtain ⟨p1,rfl⟩:=hv1.ptr
      clear hv1
      refine hK.out _ _ (t1) (fun hHeld=>?_)
      clear hK K hHeld
      try simp only[Act.put,List.setIfInBounds_toArray,List.set_cons_zero,List.set_cons_succ]
      refine wpAnyH_ready (rs:=[32]) (by kernel_rfl) (by simp) ?_
      apply AllReadyH.cons (o:=vva28_32) (by kernel_rfl)
      case hs=>exact AllReadyH.nil
      intro K hK
      simp only[vva28_32]
      go_simp
      go_at_call 10
      refine (CX.out _ _ t1 HV1.out).mono ?_
      rintro e' V2 ⟨rfl,d2⟩
      have t2:=below_seq t1 d2
      refine hK.out _ _ (t2) (fun hHeld=>?_)
      clear hK K hHeld
      try simp only[Act.put,List.setIfInBounds_toArray,List.set_cons_zero,List.set_cons_succ]
      refine wpAnyH_take (i:=38) (oi:=vva28_38) (v:=.bool false) rfl (by kernel_rfl) (by kernel_rfl) (by kernel_rfl) (fun _ _ _ h=>h) (Or.inl ⟨by kernel_rfl,?_⟩) (t2) ?_
      ·intro w hSw;go_simp<;>first|omega|(intro hh;exfalso;omega)|rfl|(rw[IntKind.wrap_i64];omega)|simp|(simp;omega)
      try simp only[Act.put,List.setIfInBounds_toArray,List.set_cons_zero,List.set_cons_succ,vva28_38]
      refine wpAnyH_take (i:=39) (oi:=vva28_39) (v:=.bool false) rfl (by kernel_rfl) (by kernel_rfl) (by kernel_rfl) (fun _ _ _ h=>h) (Or.inl ⟨by kernel_rfl,?_⟩) (t2) ?_
      ·intro w hSw;go_simp<;>first|omega|(intro hh;exfalso;omega)|rfl|(rw[IntKind.wrap_i64];omega)|simp|(simp;omega)
      try simp only[Act.put,List.setIfInBounds_toArray,List.set_cons_zero,List.set_cons_succ,vva28_39]
      refine wpAnyH_done (by kernel_rfl) ?_ _
      have ZZ:=Lib.hid (below_seq hbx t2)
      go_wp2_with fail
      go_roundw
      case rel=>exact ⟨(jj+1)+1,by go_num,by omega,ZZ.out⟩
      case measure=>simp[intOf];omega
    ·obtain rfl:j=NL:=by omega
     have KD:Hid (∀ X:World,Below wr.heap.size wr X→X.cell? ⟨wz.heap.size,0,none⟩=some (.bool ng3)∧X.cell? ⟨wz.heap.size,1,none⟩=some (.slice A3 m3 c3)∧X.cell? ⟨wz.heap.size,2,none⟩=some (.slice D3 k3 e3)):=Lib.hid fun X h=>by
      have hR:=RD6.out.keep (below_seq hbx h)
      exact ⟨hR.cell 0,hR.cell 1,hR.cell 2⟩
     have hdv:dotV pa pb=D 31:=by
      rw[DE.out,dot_sum pa pb 31 RA.out (fun p hp=>by have:=parts_place KA.out PA.out p hp;exact ⟨this.1,by omega⟩),sumTo_sigma]
      exact sigA_congr fun k _=>by rw[PEA.out,PEB.out]
     have hdv2:dotV pb pa=D 31:=by
      rw[← hdv,dot_sum pa pb 31 RA.out (fun p hp=>by have:=parts_place KA.out PA.out p hp;exact ⟨this.1,by omega⟩),dot_sum pb pa 31 RB.out (fun p hp=>by have:=parts_place KB.out PB.out p hp;exact ⟨this.1,by omega⟩),sumTo_comm]
     have zx:∀ X,Below wr.heap.size wr X→Below wz.heap.size wz X:=fun X h=>below_seq zc (below_seq hbx h)
     have CD1:Hid (∀ X,Below wr.heap.size wr X→Calls Tryz.prog 20 #[.pointer (some ⟨ba,0,none⟩),.pointer (some ⟨bb,0,none⟩)] X (Gives (fun z w'=>FracPtr w' z (D 31)) X)):=Lib.hid fun X h=>by
      rw[← hdv]
      exact vec_Dot X _ _ pa pb 2000 (.inr (KVA.out X (zx X h))) (.inr (KVB.out X (zx X h))) (by omega) (by omega) (by omega) (by omega) FA.out FB.out
     have CD2:Hid (∀ X,Below wr.heap.size wr X→Calls Tryz.prog 20 #[.pointer (some ⟨bb,0,none⟩),.pointer (some ⟨ba,0,none⟩)] X (Gives (fun z w'=>FracPtr w' z (D 31)) X)):=Lib.hid fun X h=>by
      rw[← hdv2]
      exact vec_Dot X _ _ pb pa 2000 (.inr (KVB.out X (zx X h))) (.inr (KVA.out X (zx X h))) (by omega) (by omega) (by omega) (by omega) FB.out FA.out
     have hfd:Fits 200000 (D 31):=by rw[← hdv];exact (dot_fits (L:=2000) (by omega) FA.out FB.out).mono (by have:=Nat.mul_le_mul_right (2*2000+1) hpa;omega)
     obtain ⟨TD,hTD⟩:∃ T:ByteArray,T=⟨(fracText (D 31)).toArray⟩:=⟨_,rfl⟩
     have CX:Hid (∀ X v,Below wr.heap.size wr X→FracPtr X v (D 31)→Calls Tryz.prog 10 #[v] X (Keeps (.string TD) X)):=Lib.hid fun X v h hv=>by rw[hTD];exact frac_Text X v _ hv.at_ (hfd.mono (by omega)) (HT.out.keep (KW.out X (zx X h)))
     have CQ:Hid (∀ X,Below wr.heap.size wr X→Calls Tryz.prog 17 #[.agg #[.bool ng3,.slice A3 m3 c3,.slice D3 k3 e3]] X (Keeps (.string TD) X)):=Lib.hid fun X h=>by rw[hTD];exact refq_Text X _ _ _ (ID6.out.keep (below_seq hbx h)) (by omega)
     have CL:Hid (∀ X,Below wr.heap.size wr X→Calls Tryz.prog 21 #[.pointer bs] X (Rets (.int .i64 (j:Nat)) X)):=Lib.hid fun X h=>by
      have:=vec_Len X (.pointer bs) mg (.inr (KVS.out X (zx X h)))
      rw[← HNL.out]at this
      exact this
     have ZX:Hid (∀ X,Below wr.heap.size wr X→Below w.heap.size w X):=Lib.hid fun X h=>KW.out X (zx X h)
     clear hdv hdv2 hfd hTD zx
     go_wp2_with fail
     refine wp_region_held (S:=fun X:World=>Below wr.heap.size wr X) (by kernel_rfl) ?_
     change wpAnyH _ _ _ _ _ _ _ _ (World.drew _)
     obtain ⟨V0,hV0⟩:∃ X,X=(wr).drew:=⟨_,rfl⟩
     rw[← hV0]
     have t0:Below (wr).heap.size (wr) V0:=by rw[hV0];exact Below.drewN_ (Below.refl _ _) 1
     clear hV0
     refine wpAnyH_take (i:=0) (oi:=vva31_0) (v:=.pointer (some ⟨ba,0,none⟩)) rfl (by kernel_rfl) (by kernel_rfl) (by kernel_rfl) (fun _ _ _ h=>h) (Or.inl ⟨by kernel_rfl,?_⟩) (t0) ?_
     ·intro w hSw;go_simp<;>first|omega|(intro hh;exfalso;omega)|rfl|simp|(rw[HNN.out];simp)
     try simp only[Act.put,List.setIfInBounds_toArray,List.set_cons_zero,List.set_cons_succ,vva31_0]
     refine wpAnyH_take (i:=1) (oi:=vva31_1) (v:=.pointer (some ⟨bb,0,none⟩)) rfl (by kernel_rfl) (by kernel_rfl) (by kernel_rfl) (fun _ _ _ h=>h) (Or.inl ⟨by kernel_rfl,?_⟩) (t0) ?_
     ·intro w hSw;go_simp<;>first|omega|(intro hh;exfalso;omega)|rfl|simp|(rw[HNN.out];simp)
     try simp only[Act.put,List.setIfInBounds_toArray,List.set_cons_zero,List.set_cons_succ,vva31_1]
     refine wpAnyH_take (i:=4) (oi:=vva31_4) (v:=.agg #[.bool ng3,.slice A3 m3 c3,.slice D3 k3 e3]) rfl (by kernel_rfl) (by kernel_rfl) (by kernel_rfl) (fun _ _ _ h=>h) (Or.inl ⟨by kernel_rfl,?_⟩) (t0) ?_
     ·intro w hSw;obtain ⟨e0,e1,e2⟩:=KD.out w hSw;go_simp<;>first|omega|(intro hh;exfalso;omega)|rfl|simp|(rw[HNN.out];simp)
     try simp only[Act.put,List.setIfInBounds_toArray,List.set_cons_zero,List.set_cons_succ,vva31_4]
     refine wpAnyH_ready (rs:=[2]) (by kernel_rfl) (by simp) ?_
     apply AllReadyH.cons (o:=vva31_2) (by kernel_rfl)
     case hs=>exact AllReadyH.nil
     intro K hK
     simp only[vva31_2]
     go_simp
     go_at_call 20
     refine (CD1.out _ t0).mono ?_
     rintro e' V1 ⟨v1,rfl,hv1,d1⟩
     have t1:=below_seq t0 d1
     have HV1:=Lib.hid hv1
     obtain ⟨p1,rfl⟩:=hv1.ptr
     clear hv1
     refine hK.out _ _ (t1) (fun hHeld=>?_)
     clear hK K hHeld
     try simp only[Act.put,List.setIfInBounds_toArray,List.set_cons_zero,List.set_cons_succ]
     refine wpAnyH_ready (rs:=[3]) (by kernel_rfl) (by simp) ?_
     apply AllReadyH.cons (o:=vva31_3) (by kernel_rfl)
     case hs=>exact AllReadyH.nil
     intro K hK
     simp only[vva31_3]
     go_simp
     go_at_call 10
     refine (CX.out _ _ t1 HV1.out).mono ?_
     rintro e' V2 ⟨rfl,d2⟩
     have t2:=below_seq t1 d2
     refine hK.out _ _ (t2) (fun hHeld=>?_)
     clear hK K hHeld
     try simp only[Act.put,List.setIfInBounds_toArray,List.set_cons_zero,List.set_cons_succ]
     refine wpAnyH_ready (rs:=[5]) (by kernel_rfl) (by simp) ?_
     apply AllReadyH.cons (o:=vva31_5) (by kernel_rfl)
     case hs=>exact AllReadyH.nil
     intro K hK
     simp only[vva31_5]
     go_simp
     go_at_call 17
     refine (CQ.out _ t2).mono ?_
     rintro e' V3 ⟨rfl,d3⟩
     have t3:=below_seq t2 d3
     refine hK.out _ _ (t3) (fun hHeld=>?_)
     clear hK K hHeld
     try simp only[Act.put,List.setIfInBounds_toArray,List.set_cons_zero,List.set_cons_succ]
     refine wpAnyH_take (i:=6) (oi:=vva31_6) (v:=.bool true) rfl (by kernel_rfl) (by kernel_rfl) (by kernel_rfl) (fun _ _ _ h=>h) (Or.inl ⟨by kernel_rfl,?_⟩) (t3) ?_
     ·intro w hSw;go_simp<;>first|omega|(intro hh;exfalso;omega)|rfl|simp|(rw[HNN.out];simp)
     try simp only[Act.put,List.setIfInBounds_toArray,List.set_cons_zero,List.set_cons_succ,vva31_6]
     refine wpAnyH_take (i:=7) (oi:=vva31_7) (v:=.bool true) rfl (by kernel_rfl) (by kernel_rfl) (by kernel_rfl) (fun _ _ _ h=>h) (Or.inl ⟨by kernel_rfl,?_⟩) (t3) ?_
     ·intro w hSw;go_simp<;>first|omega|(intro hh;exfalso;omega)|rfl|simp|(rw[HNN.out];simp)
     try simp only[Act.put,List.setIfInBounds_toArray,List.set_cons_zero,List.set_cons_succ,vva31_7]
     refine wpAnyH_take (i:=8) (oi:=vva31_8) (v:=.pointer (some ⟨bb,0,none⟩)) rfl (by kernel_rfl) (by kernel_rfl) (by kernel_rfl) (fun _ _ _ h=>h) (Or.inl ⟨by kernel_rfl,?_⟩) (t3) ?_
     ·intro w hSw;go_simp<;>first|omega|(intro hh;exfalso;omega)|rfl|simp|(rw[HNN.out];simp)
     try simp only[Act.put,List.setIfInBounds_toArray,List.set_cons_zero,List.set_cons_succ,vva31_8]
     refine wpAnyH_take (i:=9) (oi:=vva31_9) (v:=.pointer (some ⟨ba,0,none⟩)) rfl (by kernel_rfl) (by kernel_rfl) (by kernel_rfl) (fun _ _ _ h=>h) (Or.inl ⟨by kernel_rfl,?_⟩) (t3) ?_
     ·intro w hSw;go_simp<;>first|omega|(intro hh;exfalso;omega)|rfl|simp|(rw[HNN.out];simp)
     try simp only[Act.put,List.setIfInBounds_toArray,List.set_cons_zero,List.set_cons_succ,vva31_9]
     refine wpAnyH_take (i:=12) (oi:=vva31_12) (v:=.agg #[.bool ng3,.slice A3 m3 c3,.slice D3 k3 e3]) rfl (by kernel_rfl) (by kernel_rfl) (by kernel_rfl) (fun _ _ _ h=>h) (Or.inl ⟨by kernel_rfl,?_⟩) (t3) ?_
     ·intro w hSw;obtain ⟨e0,e1,e2⟩:=KD.out w hSw;go_simp<;>first|omega|(intro hh;exfalso;omega)|rfl|simp|(rw[HNN.out];simp)
     try simp only[Act.put,List.setIfInBounds_toArray,List.set_cons_zero,List.set_cons_succ,vva31_12]
     refine wpAnyH_ready (rs:=[10]) (by kernel_rfl) (by simp) ?_
     apply AllReadyH.cons (o:=vva31_10) (by kernel_rfl)
     case hs=>exact AllReadyH.nil
     intro K hK
     simp only[vva31_10]
     go_simp
     go_at_call 20
     refine (CD2.out _ t3).mono ?_
     rintro e' V4 ⟨v4,rfl,hv4,d4⟩
     have t4:=below_seq t3 d4
     have HV4:=Lib.hid hv4
     obtain ⟨p4,rfl⟩:=hv4.ptr
     clear hv4
     refine hK.out _ _ (t4) (fun hHeld=>?_)
     clear hK K hHeld
     try simp only[Act.put,List.setIfInBounds_toArray,List.set_cons_zero,List.set_cons_succ]
     refine wpAnyH_ready (rs:=[11]) (by kernel_rfl) (by simp) ?_
     apply AllReadyH.cons (o:=vva31_11) (by kernel_rfl)
     case hs=>exact AllReadyH.nil
     intro K hK
     simp only[vva31_11]
     go_simp
     go_at_call 10
     refine (CX.out _ _ t4 HV4.out).mono ?_
     rintro e' V5 ⟨rfl,d5⟩
     have t5:=below_seq t4 d5
     refine hK.out _ _ (t5) (fun hHeld=>?_)
     clear hK K hHeld
     try simp only[Act.put,List.setIfInBounds_toArray,List.set_cons_zero,List.set_cons_succ]
     refine wpAnyH_ready (rs:=[13]) (by kernel_rfl) (by simp) ?_
     apply AllReadyH.cons (o:=vva31_13) (by kernel_rfl)
     case hs=>exact AllReadyH.nil
     intro K hK
     simp only[vva31_13]
     go_simp
     go_at_call 17
     refine (CQ.out _ t5).mono ?_
     rintro e' V6 ⟨rfl,d6⟩
     have t6:=below_seq t5 d6
     refine hK.out _ _ (t6) (fun hHeld=>?_)
     clear hK K hHeld
     try simp only[Act.put,List.setIfInBounds_toArray,List.set_cons_zero,List.set_cons_succ]
     refine wpAnyH_take (i:=14) (oi:=vva31_14) (v:=.bool true) rfl (by kernel_rfl) (by kernel_rfl) (by kernel_rfl) (fun _ _ _ h=>h) (Or.inl ⟨by kernel_rfl,?_⟩) (t6) ?_
     ·intro w hSw;go_simp<;>first|omega|(intro hh;exfalso;omega)|rfl|simp|(rw[HNN.out];simp)
     try simp only[Act.put,List.setIfInBounds_toArray,List.set_cons_zero,List.set_cons_succ,vva31_14]
     refine wpAnyH_take (i:=15) (oi:=vva31_15) (v:=.bool true) rfl (by kernel_rfl) (by kernel_rfl) (by kernel_rfl) (fun _ _ _ h=>h) (Or.inl ⟨by kernel_rfl,?_⟩) (t6) ?_
     ·intro w hSw;go_simp<;>first|omega|(intro hh;exfalso;omega)|rfl|simp|(rw[HNN.out];simp)
     try simp only[Act.put,List.setIfInBounds_toArray,List.set_cons_zero,List.set_cons_succ,vva31_15]
     refine wpAnyH_take (i:=16) (oi:=vva31_16) (v:=.bool true) rfl (by kernel_rfl) (by kernel_rfl) (by kernel_rfl) (fun _ _ _ h=>h) (Or.inl ⟨by kernel_rfl,?_⟩) (t6) ?_
     ·intro w hSw;go_simp<;>first|omega|(intro hh;exfalso;omega)|rfl|simp|(rw[HNN.out];simp)
     try simp only[Act.put,List.setIfInBounds_toArray,List.set_cons_zero,List.set_cons_succ,vva31_16]
     refine wpAnyH_take (i:=17) (oi:=vva31_17) (v:=.slice Al j ql) rfl (by kernel_rfl) (by kernel_rfl) (by kernel_rfl) (fun _ _ _ h=>h) (Or.inl ⟨by kernel_rfl,?_⟩) (t6) ?_
     ·intro w hSw;go_simp<;>first|omega|(intro hh;exfalso;omega)|rfl|simp|(rw[HNN.out];simp)
     try simp only[Act.put,List.setIfInBounds_toArray,List.set_cons_zero,List.set_cons_succ,vva31_17]
     refine wpAnyH_take (i:=18) (oi:=vva31_18) (v:=.int .i64 j) rfl (by kernel_rfl) (by kernel_rfl) (by kernel_rfl) (fun _ _ _ h=>h) (Or.inl ⟨by kernel_rfl,?_⟩) (t6) ?_
     ·intro w hSw;go_simp<;>first|omega|(intro hh;exfalso;omega)|rfl|simp|(rw[HNN.out];simp)
     try simp only[Act.put,List.setIfInBounds_toArray,List.set_cons_zero,List.set_cons_succ,vva31_18]
     refine wpAnyH_take (i:=19) (oi:=vva31_19) (v:=.int .i64 j) rfl (by kernel_rfl) (by kernel_rfl) (by kernel_rfl) (fun _ _ _ h=>h) (Or.inl ⟨by kernel_rfl,?_⟩) (t6) ?_
     ·intro w hSw;go_simp<;>first|omega|(intro hh;exfalso;omega)|rfl|simp|(rw[HNN.out];simp)
     try simp only[Act.put,List.setIfInBounds_toArray,List.set_cons_zero,List.set_cons_succ,vva31_19]
     refine wpAnyH_take (i:=20) (oi:=vva31_20) (v:=.bool true) rfl (by kernel_rfl) (by kernel_rfl) (by kernel_rfl) (fun _ _ _ h=>h) (Or.inl ⟨by kernel_rfl,?_⟩) (t6) ?_
     ·intro w hSw;go_simp<;>first|omega|(intro hh;exfalso;omega)|rfl|simp|(rw[HNN.out];simp)
     try simp only[Act.put,List.setIfInBounds_toArray,List.set_cons_zero,List.set_cons_succ,vva31_20]
     refine wpAnyH_take (i:=21) (oi:=vva31_21) (v:=.bool true) rfl (by kernel_rfl) (by kernel_rfl) (by kernel_rfl) (fun _ _ _ h=>h) (Or.inl ⟨by kernel_rfl,?_⟩) (t6) ?_
     ·intro w hSw;go_simp<;>first|omega|(intro hh;exfalso;omega)|rfl|simp|(rw[HNN.out];simp)
     try simp only[Act.put,List.setIfInBounds_toArray,List.set_cons_zero,List.set_cons_succ,vva31_21]
     refine wpAnyH_take (i:=22) (oi:=vva31_22) (v:=.bool true) rfl (by kernel_rfl) (by kernel_rfl) (by kernel_rfl) (fun _ _ _ h=>h) (Or.inl ⟨by kernel_rfl,?_⟩) (t6) ?_
     ·intro w hSw;go_simp<;>first|omega|(intro hh;exfalso;omega)|rfl|simp|(rw[HNN.out];simp)
     try simp only[Act.put,List.setIfInBounds_toArray,List.set_cons_zero,List.set_cons_succ,vva31_22]
     refine wpAnyH_take (i:=23) (oi:=vva31_23) (v:=.pointer bs) rfl (by kernel_rfl) (by kernel_rfl) (by kernel_rfl) (fun _ _ _ h=>h) (Or.inl ⟨by kernel_rfl,?_⟩) (t6) ?_
     ·intro w hSw;go_simp<;>first|omega|(intro hh;exfalso;omega)|rfl|simp|(rw[HNN.out];simp)
     try simp only[Act.put,List.setIfInBounds_toArray,List.set_cons_zero,List.set_cons_succ,vva31_23]
     refine wpAnyH_take (i:=25) (oi:=vva31_25) (v:=.int .i64 j) rfl (by kernel_rfl) (by kernel_rfl) (by kernel_rfl) (fun _ _ _ h=>h) (Or.inl ⟨by kernel_rfl,?_⟩) (t6) ?_
     ·intro w hSw;go_simp<;>first|omega|(intro hh;exfalso;omega)|rfl|simp|(rw[HNN.out];simp)
     try simp only[Act.put,List.setIfInBounds_toArray,List.set_cons_zero,List.set_cons_succ,vva31_25]
     refine wpAnyH_ready (rs:=[24]) (by kernel_rfl) (by simp) ?_
     apply AllReadyH.cons (o:=vva31_24) (by kernel_rfl)
     case hs=>exact AllReadyH.nil
     intro K hK
     simp only[vva31_24]
     go_simp
     go_at_call 21
     refine (CL.out _ t6).mono ?_
     rintro e' V9 ⟨rfl,rfl⟩
     refine hK.out _ _ (t6) (fun hHeld=>?_)
     clear hK K hHeld
     try simp only[Act.put,List.setIfInBounds_toArray,List.set_cons_zero,List.set_cons_succ]
     refine wpAnyH_take (i:=26) (oi:=vva31_26) (v:=.bool true) rfl (by kernel_rfl) (by kernel_rfl) (by kernel_rfl) (fun _ _ _ h=>h) (Or.inl ⟨by kernel_rfl,?_⟩) (t6) ?_
     ·intro w hSw;go_simp<;>first|omega|(intro hh;exfalso;omega)|rfl|simp|(rw[HNN.out];simp)
     try simp only[Act.put,List.setIfInBounds_toArray,List.set_cons_zero,List.set_cons_succ,vva31_26]
     refine wpAnyH_take (i:=27) (oi:=vva31_27) (v:=.bool true) rfl (by kernel_rfl) (by kernel_rfl) (by kernel_rfl) (fun _ _ _ h=>h) (Or.inl ⟨by kernel_rfl,?_⟩) (t6) ?_
     ·intro w hSw;go_simp<;>first|omega|(intro hh;exfalso;omega)|rfl|simp|(rw[HNN.out];simp)
     try simp only[Act.put,List.setIfInBounds_toArray,List.set_cons_zero,List.set_cons_succ,vva31_27]
     refine wpAnyH_take (i:=28) (oi:=vva31_28) (v:=.bool true) rfl (by kernel_rfl) (by kernel_rfl) (by kernel_rfl) (fun _ _ _ h=>h) (Or.inl ⟨by kernel_rfl,?_⟩) (t6) ?_
     ·intro w hSw;go_simp<;>first|omega|(intro hh;exfalso;omega)|rfl|simp|(rw[HNN.out];simp)
     try simp only[Act.put,List.setIfInBounds_toArray,List.set_cons_zero,List.set_cons_succ,vva31_28]
     refine wpAnyH_done (by kernel_rfl) ?_ _
     have ZZ:=Lib.hid (ZX.out _ t6)
     go_wp2_with fail
     go_ret
     exact ⟨by first|rfl|simp,ZZ.out⟩
end Go.Proofs.YtehbhghbagaliaaGreatDoor
