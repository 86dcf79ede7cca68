/- Plain arithmetic of a long quotient's digit: what each loop of step keeps. No program in sight. -/
import Derived.Test.YtbdfhnelmojbpaaGreatDoorWap
import Derived.Maps.AppendAt
import Derived.Deep.RegionLaw
import Derived.MapKept
import Derived.Test.YtbdfhnelmojbpaaGreatDoorProg
import Derived.Deep.QuietTactic
import Derived.BigQuiet
import Derived.Deep.OwnRows
import Derived.Deep.DeepCutAuto
import Derived.Deep.CutBlock
set_option linter.unusedVariables false
set_option linter.unusedSimpArgs false
section
namespace Vic
theorem drop_set_before (o:List Nat) (k d:Nat):(o.set k d).drop (k+1)=o.drop (k+1):=by
 rw[List.drop_set,if_pos (by omega)]
structure SubInv (B q:Nat) (la lb l:List Nat) (i c:Nat) (r:Int):Prop where
 len:l.length=la.length
 dg:dig B l
 sum:(val B (l.take i):Int)+(B:Int) ^ i*(r - (c:Int))=(val B (la.take i):Int) - (q:Int)*(val B (lb.take i):Int)
 rest:l.drop i=la.drop i
 cs:c<B
 rs:r=0∨r=-1
theorem sub_small {B c q y:Nat}(hB:1<B) (hc:c<B) (hq:q<B) (hy:y<B):c+q*y<B*B:=by
 obtain ⟨n,rfl⟩:∃ n,B=n+1:=⟨B - 1,by omega⟩
 have h1:q*y≤n*n:=Nat.mul_le_mul (by omega) (by omega)
 have h2:(n+1)*(n+1)=n*n+n+n+1:=by rw[Nat.add_mul,Nat.mul_add];omega
 omega
theorem SubInv.step {B q:Nat}{la lb l:List Nat}{i c:Nat}{r:Int}(h:SubInv B q la lb l i c r) (hB:1<B) (hq:q<B) (hb:dig B lb) (hi:i<la.length) :
 SubInv B q la lb (l.set i ((r+((l.getD i 0:Int) - (((c+q*lb.getD i 0) % B:Nat):Int))) % (B:Int)).toNat) (i+1) ((c+q*lb.getD i 0) / B)
  ((r+((l.getD i 0:Int) - (((c+q*lb.getD i 0) % B:Nat):Int))) / (B:Int)):=by
 have hy:=dig_getD hb (by omega) i
 have ha:=dig_getD h.dg (by omega) i
 have hal:l.getD i 0=la.getD i 0:=by
  have e:=congrArg (fun x:List Nat=>x.getD 0 0) h.rest
  simp only[getD_drop,Nat.add_zero]at e;exact e
 have hs:=sub_small hB h.cs hq hy
 have hp:(0:Int)<(B:Int):=by omega
 generalize hm:(c+q*lb.getD i 0) % B=m
 generalize hk:(c+q*lb.getD i 0) / B=k
 have e1:m+B*k=c+q*lb.getD i 0:=by rw[← hm,← hk];exact Nat.mod_add_div _ _
 have hmB:m<B:=by rw[← hm];exact Nat.mod_lt _ (by omega)
 have hkB:k<B:=by rw[← hk,Nat.div_lt_iff_lt_mul (by omega)];exact hs
 have m1:=Int.emod_nonneg (r+((l.getD i 0:Int) - (m:Int))) (show (B:Int)≠0 by omega)
 have m2:=Int.emod_lt_of_pos (r+((l.getD i 0:Int) - (m:Int))) hp
 have e2:=Int.emod_add_mul_ediv (r+((l.getD i 0:Int) - (m:Int))) (B:Int)
 have hr:=h.rs
 have q1 : -1≤(r+((l.getD i 0:Int) - (m:Int))) / (B:Int):=by rw[Int.le_ediv_iff_mul_le hp];omega
 have q2:(r+((l.getD i 0:Int) - (m:Int))) / (B:Int)<1:=by rw[Int.ediv_lt_iff_lt_mul hp];omega
 generalize hqq:(r+((l.getD i 0:Int) - (m:Int))) / (B:Int)=t at *
 generalize hmm:(r+((l.getD i 0:Int) - (m:Int))) % (B:Int)=u at *
 refine ⟨by simp[h.len],dig_set h.dg (by omega) _,?_,?_,hkB,by omega⟩
 ·rw[val_take_set B l i _ (by rw[h.len];exact hi),val_take_step,val_take_step,← hal]
  simp only[Int.natCast_add,Int.natCast_mul,Int.natCast_pow,Int.toNat_of_nonneg m1]
  have e1':(m:Int)+(B:Int)*(k:Int)=(c:Int)+(q:Int)*(lb.getD i 0:Int):=by exact_mod_cast e1
  have hsum:=h.sum
  rw[Int.pow_succ]
  generalize (lb.getD i 0:Int)=y at *
  generalize (l.getD i 0:Int)=x at *
  generalize (B:Int) ^ i=P at *
  have f1:P*(B:Int)*(t - (k:Int))=P*((B:Int)*t) - P*((B:Int)*(k:Int)):=by rw[Int.mul_assoc,Int.mul_sub,Int.mul_sub]
  have f2:P*u+P*((B:Int)*t)=P*r+(P*x - P*(m:Int)):=by rw[← Int.mul_add,e2,Int.mul_add,Int.mul_sub]
  have f3:P*(m:Int)+P*((B:Int)*(k:Int))=P*(c:Int)+P*((q:Int)*y):=by rw[← Int.mul_add,e1',Int.mul_add]
  have f4:(q:Int)*((val B (lb.take i):Int)+P*y)=(q:Int)*(val B (lb.take i):Int)+P*((q:Int)*y):=by rw[Int.mul_add,Int.mul_left_comm]
  rw[f1,f4]
  rw[Int.mul_sub]at hsum
  omega
 ·rw[drop_set_before]
  have:=congrArg (fun x:List Nat=>x.drop 1) h.rest
  simpa [List.drop_drop]using this
structure BackInv (B:Nat) (l0 lb l:List Nat) (i s:Nat):Prop where
 len:l.length=l0.length
 dg:dig B l
 sum:val B (l.take i)+B ^ i*s=val B (l0.take i)+val B (lb.take i)
 rest:l.drop i=l0.drop i
 small:s≤1
theorem BackInv.step {B:Nat}{l0 lb l:List Nat}{i s:Nat}(h:BackInv B l0 lb l i s) (hB:1<B) (hb:dig B lb) (hi:i<l0.length) :
 BackInv B l0 lb (l.set i ((s+(l.getD i 0+lb.getD i 0)) % B)) (i+1) ((s+(l.getD i 0+lb.getD i 0)) / B):=by
 have h1:=dig_getD h.dg (by omega) i
 have h2:=dig_getD hb (by omega) i
 have hal:l.getD i 0=l0.getD i 0:=by
  have e:=congrArg (fun x:List Nat=>x.getD 0 0) h.rest
  simp only[getD_drop,Nat.add_zero]at e;exact e
 refine ⟨by simp[h.len],dig_set h.dg (Nat.mod_lt _ (by omega)) _,?_,?_,?_⟩
 ·rw[val_take_set B l i _ (by rw[h.len];exact hi),val_take_step,val_take_step,Nat.pow_succ,Nat.mul_assoc,← hal]
  have e:=Nat.mod_add_div (s+(l.getD i 0+lb.getD i 0)) B
  have e2:B ^ i*((s+(l.getD i 0+lb.getD i 0)) % B)+B ^ i*(B*((s+(l.getD i 0+lb.getD i 0)) / B))=B ^ i*s+(B ^ i*l.getD i 0+B ^ i*lb.getD i 0):=by
   rw[← Nat.mul_add,e,Nat.mul_add,Nat.mul_add]
  have:=h.sum
  omega
 ·rw[drop_set_before]
  have:=congrArg (fun x:List Nat=>x.drop 1) h.rest
  simpa [List.drop_drop]using this
 ·have h3:=h.small
  have:(s+(l.getD i 0+lb.getD i 0)) / B<2:=by rw[Nat.div_lt_iff_lt_mul (by omega)];omega
  omega
theorem BackInv.done {B:Nat}{l0 lb l:List Nat}{n s:Nat}(h:BackInv B l0 lb l n s) (hB:1<B) (hl0:l0.length=n+1) (hlb:lb.length=n) (v:Nat) (hv:val B l0+val B lb=B ^ (n+1)+v) (hvs:v<B ^ (n+1)) :
 dig B (l.set n ((l.getD n 0+s) % B))∧(l.set n ((l.getD n 0+s) % B)).length=n+1∧val B (l.set n ((l.getD n 0+s) % B))=v:=by
 have hlen:l.length=n+1:=h.len.trans hl0
 have hal:l.getD n 0=l0.getD n 0:=by
  have e:=congrArg (fun x:List Nat=>x.getD 0 0) h.rest
  simp only[getD_drop,Nat.add_zero]at e;exact e
 have hd:dig B (l.set n ((l.getD n 0+s) % B)):=dig_set h.dg (Nat.mod_lt _ (by omega)) _
 refine ⟨hd,by simp[hlen],?_⟩
 have e1:=val_take_set B l n ((l.getD n 0+s) % B) (by omega)
 rw[val_take_all B _ _ (by simp;omega)]at e1
 have e0:=val_take_step B l0 n
 rw[val_take_all B _ _ (by omega)]at e0
 have hs:=h.sum
 rw[val_take_all B lb n (by omega)]at hs
 have e2:=Nat.mod_add_div (l.getD n 0+s) B
 have e3:B ^ n*((l.getD n 0+s) % B)+B ^ (n+1)*((l.getD n 0+s) / B)=B ^ n*l.getD n 0+B ^ n*s:=by
  rw[Nat.pow_succ,Nat.mul_assoc,← Nat.mul_add,e2,Nat.mul_add]
 have hlt:=val_lt (by omega:0<B) hd
 rw[List.length_set,hlen]at hlt
 rw[← hal]at e0
 have e4:val B (l.set n ((l.getD n 0+s) % B))+B ^ (n+1)*((l.getD n 0+s) / B)=B ^ (n+1)+v:=by omega
 have e5:=congrArg (· % B ^ (n+1)) e4
 simp only[Nat.add_mul_mod_self_left,Nat.add_mod_left]at e5
 rw[Nat.mod_eq_of_lt hlt,Nat.mod_eq_of_lt hvs]at e5
 exact e5
end Vic
end
section
namespace Vic
theorem val_drop_small {B:Nat}(hB:0<B) {l:List Nat}{k:Nat}(h:val B l<B ^ k):val B (l.drop k)=0:=by
 have:=val_split B l k
 rcases Nat.eq_zero_or_pos (val B (l.drop k))with h0|h0
 ·exact h0
 ·have:B ^ k*1≤B ^ k*val B (l.drop k):=Nat.mul_le_mul_left _ h0
  omega
theorem val_take_small {B:Nat}(hB:0<B) {l:List Nat}{k:Nat}(h:val B l<B ^ k):val B (l.take k)=val B l:=by
 have:=val_split B l k
 rw[val_drop_small hB h,Nat.mul_zero]at this
 omega
structure LongInv (B A b:Nat) (z o:List Nat) (Z K i:Nat):Prop where
 lz:z.length=Z
 lo:o.length=K
 dz:dig B z
 do_:dig B o
 sum:val B z+b*val B o=A
 low:val B (o.take i)=0
 win:val B (z.drop i)<b
theorem LongInv.window {B A b:Nat}{z o:List Nat}{Z K i n:Nat}(h:LongInv B A b z o Z K (i+1)) (hB:1<B) (hb:b<B ^ n) :
 val B ((z.drop i).take (n+1))=val B (z.drop i)∧val B (z.drop i)<b*B:=by
 have e:=val_drop_step B z i
 have hd:=dig_getD h.dz (by omega) i
 have hw:=h.win
 have h1:B*(val B (z.drop (i+1))+1)≤B*b:=Nat.mul_le_mul_left _ hw
 rw[Nat.mul_add]at h1
 rw[Nat.mul_comm b B]
 have h2:B*b<B*B ^ n:=Nat.mul_lt_mul_of_pos_left hb (by omega)
 have h3:B ^ (n+1)=B*B ^ n:=by rw[Nat.pow_succ,Nat.mul_comm]
 refine ⟨val_take_small (by omega) (by omega),by omega⟩
theorem LongInv.step {B A b:Nat}{z o l:List Nat}{Z K i n:Nat}(h:LongInv B A b z o Z K (i+1)) (hB:1<B) (hb:b<B ^ n) (hb0:0<b) (hi:i<K) (hz:i+(n+1)≤Z)
 (hl:l.length=n+1) (hd:dig B l) (hv:val B l=val B ((z.drop i).take (n+1)) % b) :
 LongInv B A b (z.take i ++ l ++ z.drop (i+(n+1))) (o.set i (val B ((z.drop i).take (n+1)) / b)) Z K i:=by
 obtain ⟨e1,e2⟩:=h.window hB hb
 rw[e1]at hv ⊢
 have hq:val B (z.drop i) / b<B:=by rw[Nat.div_lt_iff_lt_mul hb0,Nat.mul_comm];exact e2
 have hlz:=h.lz
 have hlo:=h.lo
 have ez:val B (z.drop (i+(n+1)))=0:=by
  rw[← List.drop_drop]
  refine val_drop_small (by omega) (Nat.lt_of_lt_of_le e2 ?_)
  rw[Nat.pow_succ];exact Nat.mul_le_mul_right _ (Nat.le_of_lt hb)
 have es:=val_split B z i
 have el:=h.low
 rw[val_take_step]at el
 have eo:=val_set (B:=B) (val B (z.drop i) / b) (show i<o.length by omega)
 have eoi:B ^ i*o.getD i 0=0:=by omega
 have elo:val B (o.take i)=0:=by omega
 have ti:(z.take i).length=i:=by rw[List.length_take];omega
 have evz:val B (z.take i ++ l ++ z.drop (i+(n+1)))=val B (z.take i)+B ^ i*val B l:=by
  rw[List.append_assoc,val_append,val_append,ez,ti,Nat.mul_zero,Nat.add_zero]
 have edm:=Nat.div_add_mod (val B (z.drop i)) b
 rw[← hv]at edm
 have hm:=Nat.mod_lt (val B (z.drop i)) hb0
 rw[← hv]at hm
 refine ⟨?_,by simp[hlo],?_,dig_set h.do_ hq _,?_,?_,?_⟩
 ·simp only[List.length_append,ti,hl,List.length_drop];omega
 ·exact dig_append.2 ⟨dig_append.2 ⟨dig_take h.dz i,hd⟩,dig_drop h.dz _⟩
 ·rw[evz]
  have hs:=h.sum
  rw[eoi,Nat.add_zero]at eo
  rw[eo,Nat.mul_add]
  generalize val B (z.drop i) / b=q at *
  have e5:B ^ i*val B (z.drop i)=B ^ i*(b*q)+B ^ i*val B l:=by rw[← Nat.mul_add,edm]
  have e6:b*(B ^ i*q)=B ^ i*(b*q):=Nat.mul_left_comm _ _ _
  omega
 ·rw[take_set];exact elo
 ·rw[List.append_assoc,List.drop_append_of_le_length (by omega),List.drop_of_length_le (by omega),List.nil_append,val_append,ez,Nat.mul_zero,Nat.add_zero]
  exact hm
theorem LongInv.done {B A b:Nat}{z o:List Nat}{Z K:Nat}(h:LongInv B A b z o Z K 0) (hb:0<b):val B o=A / b∧val B z=A % b:=by
 have hs:=h.sum
 have hw:=h.win
 rw[List.drop_zero]at hw
 rw[Nat.add_comm]at hs
 subst hs
 rw[Nat.mul_add_div hb,Nat.mul_add_mod,Nat.div_eq_of_lt hw,Nat.mod_eq_of_lt hw]
 exact ⟨rfl,rfl⟩
end Vic
end
section
namespace Vic
def sgn (neg:Bool) (n:Nat):Int:=if neg then -(n:Int)else n
def quo (neg:Bool) (n d:Nat):Rat:=mkRat (sgn neg n) d
abbrev sz (n:Nat):Nat:=(dgs n).length
def Fits (L:Nat) (q:Rat):Prop:=sz q.num.natAbs≤L∧sz q.den≤L
theorem Fits.mono {L M:Nat}{q:Rat}(h:Fits L q) (hm:L≤M):Fits M q:=⟨Nat.le_trans h.1 hm,Nat.le_trans h.2 hm⟩
end Vic
end
section
namespace Vic
open Go
theorem flds_word {p:UInt8→Bool}:∀ (w s cur:Txt),(∀ c∈w,p c=false)→fldsP p (w ++ s) cur=fldsP p s (cur ++ w)
 | [],s,cur,_=>by simp
 | c :: w,s,cur,h=>by
   rw[List.cons_append,fldsP,h c (by simp)]
   simp only[Bool.false_eq_true,if_false]
   rw[flds_word w s (cur ++ [c]) fun d hd=>h d (by simp[hd])]
   simp
theorem flds_end {p:UInt8→Bool}{c:UInt8}(s cur:Txt) (hc:p c=true) (h:cur≠[]):fldsP p (c :: s) cur=cur :: fldsP p s []:=by
 rw[fldsP,hc];simp[h]
theorem name_c {w:Txt}(h:nameB w=true):w≠[]∧w.length≤20∧∀ c∈w,badC c=false:=by
 unfold nameB at h
 simp only[Bool.and_eq_true,Bool.not_eq_true',decide_eq_true_eq]at h
 obtain ⟨⟨h1,h2⟩,h3⟩:=h
 refine ⟨fun e=>by subst e;simp at h2,h3,fun c hc=>?_⟩
 simpa using List.any_eq_false.1 h1 c hc
theorem badC_c {c:UInt8}(h:badC c=false):blankC c=false∧badL c=false∧c≠10∧c≠13:=by
 unfold badC at h
 simp only[Bool.or_eq_false_iff,decide_eq_false_iff_not]at h
 obtain ⟨h1,h2⟩:=h
 have hn:∀ d:UInt8,d≤32→c≠d:=fun d hd e=>h1 (e▸hd)
 refine ⟨?_,?_,hn 10 (by decide),hn 13 (by decide)⟩
 ·simp[blankC,hn 32 (by decide),hn 9 (by decide),hn 13 (by decide)]
 ·unfold badL
  have h3:¬ c<32:=fun h=>h1 (UInt8.le_of_lt h)
  simp[h2,h3]
theorem spl_lines:∀ (ls:List Txt) (rest:Txt),(∀ l∈ls,(10:UInt8)∉l)→spl (ls.flatMap (fun l=>l ++ [10]) ++ rest)=ls ++ spl rest
 | [],rest,_=>rfl
 | l :: ls,rest,h=>by
   rw[List.flatMap_cons,List.append_assoc,List.append_assoc,List.singleton_append,spl_app _ (h l (by simp)),spl_lines ls rest fun x hx=>h x (by simp[hx])]
   rfl
end Vic
end
section
namespace Vic
open Go Go.RowKit
def OwnK (Kd:Value→Prop) (w:World) (base:Nat) (e:TypeId) (size:Nat) (v:Value) (n:Nat) (xs:List Value):Prop:=
 xs.length=n*size ∧
 ((v=.slice none 0 0∧n=0) ∨
  ∃ g cap cur,v=.slice (some ⟨g,0,none⟩) n cap∧base≤g∧w.heap[g]?=some (.cells cur e (0,0))∧n≤cap∧cap≤maxLen∧cur.size=cap*size∧cur.toList.take (n*size)=xs∧∀ u∈cur,Kd u)
theorem OwnK.own {Kd:Value→Prop}{w:World}{base:Nat}{e:TypeId}{size:Nat}{v:Value}{n:Nat}{xs:List Value}(h:OwnK Kd w base e size v n xs):w.ownsRow base e size v n xs:=by
 obtain ⟨h1,h2|⟨g,cap,cur,a1,a2,a3,a4,a5,a6,a7,_⟩⟩:=h
 ·exact ⟨h1,.inl h2⟩
 ·exact ⟨h1,.inr ⟨g,cap,cur,a1,a2,a3,a4,a5,a6,a7⟩⟩
theorem OwnK.nil_ (Kd:Value→Prop) (w:World) (base:Nat) (e:TypeId) (size:Nat):OwnK Kd w base e size (.slice none 0 0) 0 []:=⟨by simp,.inl ⟨rfl,rfl⟩⟩
theorem OwnK.stay {Kd:Value→Prop}{w w':World}{base:Nat}{e:TypeId}{size:Nat}{v:Value}{n:Nat}{xs:List Value}(h:OwnK Kd w base e size v n xs) (hs:∀ g,v.ownBlock=some g→w'.heap[g]?=w.heap[g]?):OwnK Kd w' base e size v n xs:=by
 obtain ⟨h1,h2|⟨g,cap,cur,rfl,a2,a3,a4⟩⟩:=h
 ·exact ⟨h1,.inl h2⟩
 ·exact ⟨h1,.inr ⟨g,cap,cur,rfl,a2,by rw[hs g rfl];exact a3,a4⟩⟩
theorem OwnK.lt {Kd:Value→Prop}{w:World}{base:Nat}{e:TypeId}{size:Nat}{v:Value}{n:Nat}{xs:List Value}(h:OwnK Kd w base e size v n xs) {g:Nat}(hg:v.ownBlock=some g):base≤g∧g<w.heap.size:=by
 obtain ⟨h1,⟨rfl,_⟩|⟨g',cap,cur,rfl,a2,a3,a4⟩⟩:=h
 ·cases hg
 ·injection hg with hg
  subst hg
  refine ⟨a2,?_⟩
  rcases Nat.lt_or_ge g' w.heap.size with h|h
  ·exact h
  ·rw[Array.getElem?_eq_none h]at a3;cases a3
theorem OwnK.keep {Kd:Value→Prop}{w w':World}{base:Nat}{e:TypeId}{size:Nat}{v:Value}{n:Nat}{xs:List Value}(h:OwnK Kd w base e size v n xs) (hb:Below w.heap.size w w'):OwnK Kd w' base e size v n xs:=
 h.stay fun g hg=>hb.block g (h.lt hg).2
theorem OwnK.kind {Kd:Value→Prop}{w:World}{base:Nat}{e:TypeId}{size:Nat}{v:Value}{n:Nat}{xs:List Value}(h:OwnK Kd w base e size v n xs) {g:Nat}(hg:v.ownBlock=some g) {o:Nat}{u:Value}(hc:w.cell? ⟨g,o,none⟩=some u):Kd u:=by
 obtain ⟨h1,⟨rfl,_⟩|⟨g',cap,cur,rfl,a2,a3,a4,a5,a6,a7,a8⟩⟩:=h
 ·cases hg
 ·cases hg
  simp only[World.cell?,a3]at hc
  exact a8 u (Array.mem_of_getElem? hc)
theorem OwnK.shape {Kd:Value→Prop}{w:World}{base:Nat}{e:TypeId}{size:Nat}{v:Value}{n:Nat}{xs:List Value}(h:OwnK Kd w base e size v n xs) (h0:0<n):∃ g cap,v=.slice (some ⟨g,0,none⟩) n cap:=by
 obtain ⟨_,⟨_,h1⟩|⟨g,cap,cur,rfl,_⟩⟩:=h
 ·omega
 ·exact ⟨g,cap,rfl⟩
theorem mem_zeroCells {z:Array Value}{n:Nat}{u:Value}(h:u∈Builtin.zeroCells z n):u∈z:=by
 unfold Builtin.zeroCells at h
 obtain ⟨i,hi,rfl⟩:=Array.mem_map.1 h
 have hz:0<z.size:=by
  rcases Nat.eq_zero_or_pos z.size with h0|h0
  ·rw[h0]at hi;simp at hi
  ·exact h0
 have hlt:i % z.size<z.size:=Nat.mod_lt _ hz
 rw[getElem!_pos z (i % z.size) hlt]
 exact Array.getElem_mem hlt
theorem OwnK.append {P:Program}{Kd:Value→Prop}{w:World}{base:Nat}{t ty e:TypeId}{i:TypeInfo}{z:Value}{size:Nat}(ht:P.underlying t=some (.slice e)) (hi:P.info? e=some i) (hz:i.zero=some z)
 (hsize:i.size=size) (hzs:z.cells.size=size) (hsz:0<size)
 {v:Value}{n:Nat}{xs:List Value}(hown:OwnK Kd w base e size v n xs)
 (a:Addr) (m c:Nat) (news:List Value) (hl:news.length=m*size) (hnews:∀ j u,news[j]?=some u→w.cell? (a.add j)=some u) (h1:∀ u∈news,u.oneCell'=true)
 (hk:∀ u∈news,Kd u) (hkz:∀ u∈z.cells,Kd u) (h0:0<m)
 (h63:n+m≤maxLen) (hbytes:(n+m)*i.bytes≤140737488355328) (hbase:base≤w.heap.size) :
 ∃ v' w',(Builtin.append_ #[t,t] ty #[v,.slice (some a) m c]).run P w=.ok v' w'∧OwnK Kd w' base e size v' (n+m) (xs ++ news)∧w.grownBy w' v.ownBlock∧(v'.ownBlock=v.ownBlock∨v'.ownBlock=some w.heap.size):=by
 subst hsize
 have hsmall:n+m≤9223372036854775807:=by simp only[maxLen]at h63;omega
 have hlen:(xs ++ news).length=(n+m)*i.size:=by rw[List.length_append,hown.1,hl,Nat.add_mul]
 have grown:∀ (old:Nat),(∀ u∈xs,Kd u)→∀ (row:Option Nat),
  OwnK Kd (w.drew.alloc (.cells (xs.toArray ++ news.toArray ++ Builtin.zeroCells z.cells (grownCap w (n+m) old e - (n+m))) e)) base e i.size
   (.slice (some ⟨w.heap.size,0,none⟩) (n+m) (grownCap w (n+m) old e)) (n+m) (xs ++ news) ∧
  w.grownBy (w.drew.alloc (.cells (xs.toArray ++ news.toArray ++ Builtin.zeroCells z.cells (grownCap w (n+m) old e - (n+m))) e)) row:=by
  intro old hxs row
  have hge:=grownCap_ge w (n+m) old e
  have hcm:grownCap w (n+m) old e≤maxLen:=grownCap_le_maxLen w (n+m) old e h63
  refine ⟨⟨hlen,.inr ⟨w.heap.size,_,_,rfl,hbase,heap_alloc_new w.drew _,hge,hcm,?_,?_,?_⟩⟩,⟨rfl,rfl,rfl,by simp,fun k hk _=>Below.heap_alloc w.drew _ k hk⟩⟩
  ·simp only[Array.size_append,List.size_toArray,size_zeroCells,hzs,hown.1,hl,← Nat.add_mul]
   congr 1
   omega
  ·simp only[Array.toList_append,List.append_assoc]
   rw[← List.append_assoc,← hlen]
   exact List.take_left
  ·intro u hu
   rcases Array.mem_append.1 hu with hu|hu
   ·rcases Array.mem_append.1 hu with hu|hu
    ·exact hxs u (by simpa using hu)
    ·exact hk u (by simpa using hu)
   ·exact hkz u (mem_zeroCells hu)
 rcases hown.2 with ⟨rfl,rfl⟩|⟨g,cap,cur,rfl,hbg,hg,hnc,hcm,hcs,htake,hkd⟩
 ·have hx:xs = []:=List.eq_nil_of_length_eq_zero (by simpa using hown.1)
  subst hx
  have hr:=run_append_nil (P:=P) w t ty e i z ht hi hz a m c news hl hnews (by omega) (by omega) (by have hb:=hbytes;simp only[Nat.zero_add]at hb;omega)
  have hgr:=grown 0 (by simp) (Value.ownBlock (.slice none 0 0))
  simp only[Nat.zero_add,List.nil_append,Array.empty_append]at hgr ⊢
  exact ⟨_,_,hr,hgr.1,hgr.2,Or.inr rfl⟩
 ·have hxk:∀ u∈xs,Kd u:=fun u hu=>hkd u (by
   rw[← htake]at hu
   have:=List.mem_of_mem_take hu
   simpa using this)
  by_cases hroom:n+m≤cap
  ·have hfit:n*i.size+news.length≤cur.size:=by rw[hl,hcs,← Nat.add_mul];exact Nat.mul_le_mul_right _ hroom
   have hr:=run_append_room (P:=P) w t ty e i ht hi g n cap cur hg a m c news hl hnews h1 hroom hfit
   refine ⟨_,_,hr,⟨hlen,.inr ⟨g,cap,_,rfl,hbg,setRow_heap w g cur _ e _ hg,hroom,hcm,?_,?_,?_⟩⟩,⟨rfl,rfl,rfl,by simp,fun k _ hk=>setRow_other w g k _ (fun e=>hk (by simp[Value.ownBlock,e]))⟩,Or.inl rfl⟩
   ·simp only[List.size_toArray,List.length_append,List.length_take,List.length_drop,Array.length_toList]
    omega
   ·rw[htake,← hlen]
    show List.take (xs ++ news).length (xs ++ news ++ _)=_
    exact List.take_left
   ·intro u hu
    have hu':u∈cur.toList.take (n*i.size) ++ news ++ cur.toList.drop (n*i.size+news.length):=by simpa using hu
    rcases List.mem_append.1 hu' with hu|hu
    ·rcases List.mem_append.1 hu with hu|hu
     ·exact hkd u (by have:=List.mem_of_mem_take hu;simpa using this)
     ·exact hk u hu
    ·exact hkd u (by have:=List.mem_of_mem_drop hu;simpa using this)
  ·have holds:∀ j u,xs[j]?=some u→w.cell? ((⟨g,0,none⟩:Addr).add j)=some u:=hown.own.cells (g:=g) rfl
   have hr:=run_append_grow (P:=P) w t ty e i z ht hi hz ⟨g,0,none⟩ n cap xs hown.1 holds a m c news hl hnews (by omega) (by omega) (growslice_fits (by omega) hbytes)
   have hgr:=grown cap hxk (Value.ownBlock (.slice (some ⟨g,0,none⟩) n cap))
   exact ⟨_,_,hr,hgr.1,hgr.2,Or.inr rfl⟩
theorem wpList_append_ownK {P:Program}{Kd:Value→Prop}{ops:Array Oper}{rest:List Oper}{o:Oper}{a:Act}{w:World}{Q:Exit→Act→World→Prop}(hgd:o.guard=none) (s x:Operand) (t:TypeId)
 (ho:o.op=.call { callee:=.builtin .append,args:=#[s,x],argTypes:=#[t,t] }) (base:Nat) (e:TypeId) (i:TypeInfo) (z:Value) (size:Nat) (ht:P.underlying t=some (.slice e)) (hi:P.info? e=some i) (hz:i.zero=some z)
 (hsize:i.size=size) (hzs:z.cells.size=size) (hsz:0<size) (v:Value) (n:Nat) (xs:List Value) (hs:a.eval s=v) (hown:OwnK Kd w base e size v n xs)
 (ad:Addr) (m c:Nat) (news:List Value) (hx:a.eval x=.slice (some ad) m c) (hl:news.length=m*size) (hnews:∀ j u,news[j]?=some u→w.cell? (ad.add j)=some u) (h1:∀ u∈news,u.oneCell'=true)
 (hk:∀ u∈news,Kd u) (hkz:∀ u∈z.cells,Kd u) (h0:0<m) (h63:n+m≤maxLen) (hbytes:(n+m)*i.bytes≤140737488355328) (hbase:base≤w.heap.size)
 (h:∀ v' w',OwnK Kd w' base e size v' (n+m) (xs ++ news)→w.grownBy w' v.ownBlock→(v'.ownBlock=v.ownBlock∨v'.ownBlock=some w.heap.size)→wpList P ops Q rest (a.put o.dst v') w'):wpList P ops Q (o :: rest) a w:=by
 refine wpList_plain hgd fun K hK=>?_
 obtain ⟨v',w',hrun,h2,h3,h4⟩:=OwnK.append (P:=P) (ty:=o.type) ht hi hz hsize hzs hsz hown ad m c news hl hnews h1 hk hkz h0 h63 hbytes hbase
 unfold Oper.wp execOp
 simp only[ho,resolve,invoke,builtin,Sem.run_bind,Sem.run_pure,Result.andThen_ok,List.map_toArray,List.map_cons,List.map_nil,hs,hx,hrun]
 exact hK _ _ (h v' w' h2 h3 h4)
theorem step_append_ownK {P:Program}{Kd:Value→Prop}{ops:Array Oper}{o:Oper}{a:Act}{w:World}{K:Act→World→Prop}{Q:Exit→Act→World→Prop}{E:Prop}(hgd:o.guard=none) (s x:Operand) (t:TypeId)
 (ho:o.op=.call { callee:=.builtin .append,args:=#[s,x],argTypes:=#[t,t] }) (base:Nat) (e:TypeId) (i:TypeInfo) (z:Value) (size:Nat) (ht:P.underlying t=some (.slice e)) (hi:P.info? e=some i) (hz:i.zero=some z)
 (hsize:i.size=size) (hzs:z.cells.size=size) (hsz:0<size) (v:Value) (n:Nat) (xs:List Value) (hs:a.eval s=v) (hown:OwnK Kd w base e size v n xs)
 (ad:Addr) (m c:Nat) (news:List Value) (hx:a.eval x=.slice (some ad) m c) (hl:news.length=m*size) (hnews:∀ j u,news[j]?=some u→w.cell? (ad.add j)=some u) (h1:∀ u∈news,u.oneCell'=true)
 (hk:∀ u∈news,Kd u) (hkz:∀ u∈z.cells,Kd u) (h0:0<m) (h63:n+m≤maxLen) (hbytes:(n+m)*i.bytes≤140737488355328) (hbase:base≤w.heap.size)
 (h:∀ v' w',OwnK Kd w' base e size v' (n+m) (xs ++ news)→w.grownBy w' v.ownBlock→(v'.ownBlock=v.ownBlock∨v'.ownBlock=some w.heap.size)→K (a.put o.dst v') w') :
 if Region.wanted o (yielded ops a.tmps)=true then Oper.wp P o a w K Q else E:=by
 have hw:Region.wanted o (yielded ops a.tmps)=true:=by simp[Region.wanted,hgd]
 rw[if_pos hw]
 obtain ⟨v',w',hrun,h2,h3,h4⟩:=OwnK.append (P:=P) (ty:=o.type) ht hi hz hsize hzs hsz hown ad m c news hl hnews h1 hk hkz h0 h63 hbytes hbase
 unfold Oper.wp execOp
 simp only[ho,resolve,invoke,builtin,Sem.run_bind,Sem.run_pure,Result.andThen_ok,List.map_toArray,List.map_cons,List.map_nil,hs,hx,hrun]
 exact h v' w' h2 h3 h4
end Vic
end
section
namespace Vic
open Go Go.RowKit
abbrev Own (w:World) (B:Nat) (e:TypeId) (size:Nat) (v:Value) (n:Nat) (xs:List Value):Prop:=OwnK (fun _=>True) w B e size v n xs
theorem OwnK.typed {Kd:Value→Prop}{w:World}{B:Nat}{e:TypeId}{size:Nat}{v:Value}{n:Nat}{xs:List Value}(h:OwnK Kd w B e size v n xs) {g:Nat}(hg:v.ownBlock=some g):∃ cur,w.heap[g]?=some (.cells cur e (0,0)):=by
 obtain ⟨_,⟨rfl,_⟩|⟨g',cap,cur,rfl,a2,a3,_⟩⟩:=h
 ·cases hg
 ·cases hg;exact ⟨cur,a3⟩
theorem OwnK.sl {Kd:Value→Prop}{w:World}{B:Nat}{e:TypeId}{size:Nat}{v:Value}{n:Nat}{xs:List Value}(h:OwnK Kd w B e size v n xs):∃ A c,v=.slice A n c∧n≤c∧∀ j u,xs[j]?=some u→∃ g,A=some ⟨g,0,none⟩∧w.cell? ⟨g,j,none⟩=some u:=by
 obtain ⟨hl,⟨rfl,rfl⟩|⟨g,cap,cur,rfl,a2,a3,a4,a5,a6,a7,_⟩⟩:=h
 ·refine ⟨none,0,rfl,Nat.le_refl _,fun j u hj=>?_⟩
  have:xs = []:=List.eq_nil_of_length_eq_zero (by simpa using hl)
  subst this;simp at hj
 ·refine ⟨_,_,rfl,a4,fun j u hj=>⟨g,rfl,?_⟩⟩
  rw[← a7]at hj
  have hj':=(List.getElem?_eq_some_iff.1 hj).1
  rw[List.length_take]at hj'
  rw[List.getElem?_take]at hj
  split at hj
  ·simpa [World.cell?,a3]using hj
  ·cases hj
theorem OwnK.alloc {Kd:Value→Prop}{w:World}{B:Nat}{e:TypeId}{size:Nat}{v:Value}{n:Nat}{xs:List Value}(h:OwnK Kd w B e size v n xs) (o:Obj):OwnK Kd (w.alloc o) B e size v n xs:=
 h.keep ((Below.refl _ _).alloc (Nat.le_refl _) _)
theorem OwnK.store {Kd:Value→Prop}{w:World}{B:Nat}{e:TypeId}{size:Nat}{v:Value}{n:Nat}{xs:List Value}(h:OwnK Kd w B e size v n xs) {g:Nat}(hg:v.ownBlock=some g) (i:Nat) (u:Value) (hi:i<xs.length) (hk:Kd u) :
 OwnK Kd (w.setCell ⟨g,i,none⟩ u) B e size v n (xs.set i u):=by
 obtain ⟨hl,⟨rfl,rfl⟩|⟨g',cap,cur,rfl,a2,a3,a4,a5,a6,a7,a8⟩⟩:=h
 ·cases hg
 ·injection hg with hg
  subst hg
  refine ⟨by simpa using hl,.inr ⟨g',cap,cur.setIfInBounds i u,rfl,a2,?_,a4,a5,by simpa using a6,?_,fun x hx=>?_⟩⟩
  ·simp[World.setCell,Array.getElem?_modify,a3]
  ·rw[Array.toList_setIfInBounds,← a7,List.take_set]
  ·rcases Array.mem_or_eq_of_mem_setIfInBounds hx with h1|h1
   ·exact a8 x h1
   ·subst h1;exact hk
variable {ι:Type}
structure OwnF (w:World) (B:Nat) (e:TypeId) (size:Nat) (dom:ι→Prop) (v:ι→Value) (n:ι→Nat) (xs:ι→List Value):Prop where
 own:∀ i,dom i→Own w B e size (v i) (n i) (xs i)
 apart:∀ i j g,dom i→dom j→(v i).ownBlock=some g→(v j).ownBlock=some g→i=j
theorem OwnF.stay {w w':World}{B:Nat}{e:TypeId}{size:Nat}{dom:ι→Prop}{v:ι→Value}{n:ι→Nat}{xs:ι→List Value}(h:OwnF w B e size dom v n xs) (hs:∀ i g,dom i→(v i).ownBlock=some g→w'.heap[g]?=w.heap[g]?):OwnF w' B e size dom v n xs:=
 ⟨fun i hi=>(h.own i hi).stay fun g hg=>hs i g hi hg,h.apart⟩
theorem OwnF.keep {w w':World}{B:Nat}{e:TypeId}{size:Nat}{dom:ι→Prop}{v:ι→Value}{n:ι→Nat}{xs:ι→List Value}(h:OwnF w B e size dom v n xs) (hb:Below w.heap.size w w'):OwnF w' B e size dom v n xs:=
 h.stay fun i g hi hg=>hb.block g ((h.own i hi).lt hg).2
theorem OwnF.other {w w':World}{B:Nat}{e:TypeId}{size:Nat}{dom:ι→Prop}{v:ι→Value}{n:ι→Nat}{xs:ι→List Value}(h:OwnF w B e size dom v n xs) (hs:∀ (g:Nat) (cur:Array Value),w.heap[g]?=some (Obj.cells cur e (0,0))→w'.heap[g]?=w.heap[g]?):OwnF w' B e size dom v n xs:=
 h.stay fun i g hi hg=>by obtain ⟨cur,hc⟩:=(h.own i hi).typed hg;exact hs g cur hc
end Vic
end
section
namespace Vic
open Go Go.RowKit
def SlIn {α:Type}(R:World→Nat→Nat→α→Prop) (size:Nat) (w:World) (v:Value) (l:List α):Prop:=
 ∃ A c,v=.slice A l.length c∧l.length≤c∧∀ (i:Nat) (x:α),l[i]?=some x→∃ g o,A=some ⟨g,o,none⟩∧R w g (o+i*size) x
def Firm {α:Type}(R:World→Nat→Nat→α→Prop):Prop:=∀ w w' g o x,R w g o x→Below w.heap.size w w'→R w' g o x
theorem SlIn.keep {α:Type}{R:World→Nat→Nat→α→Prop}(hR:Firm R) {size:Nat}{w w':World}{v:Value}{l:List α}(h:SlIn R size w v l) (hb:Below w.heap.size w w'):SlIn R size w' v l:=by
 obtain ⟨A,c,h1,h2,h3⟩:=h
 refine ⟨A,c,h1,h2,fun i x hx=>?_⟩
 obtain ⟨g,o,h4,h5⟩:=h3 i x hx
 exact ⟨g,o,h4,hR _ _ _ _ _ h5 hb⟩
theorem SlIn.nil_ {α:Type}(R:World→Nat→Nat→α→Prop) (size:Nat) (w:World):SlIn R size w (.slice none 0 0) []:=⟨none,0,rfl,Nat.le_refl _,fun i x hx=>by simp at hx⟩
theorem SlIn.imp {α:Type}{R S:World→Nat→Nat→α→Prop}{size:Nat}{w w':World}{v:Value}{l:List α}(h:SlIn R size w v l) (k:∀ g o x,x∈l→R w g o x→S w' g o x):SlIn S size w' v l:=by
 obtain ⟨A,c,h1,h2,h3⟩:=h
 refine ⟨A,c,h1,h2,fun i x hx=>?_⟩
 obtain ⟨g,o,h4,h5⟩:=h3 i x hx
 exact ⟨g,o,h4,k _ _ _ (List.mem_of_getElem? hx) h5⟩
def StrR (w:World) (g o:Nat) (s:Txt):Prop:=w.cell? ⟨g,o,none⟩=some (.string ⟨s.toArray⟩)
theorem StrR.firm:Firm StrR:=fun _ _ _ _ _ h hb=>cell_keep h hb
abbrev StrsIn (w:World) (v:Value) (l:List Txt):Prop:=SlIn StrR 1 w v l
def LineR (w:World) (g o:Nat) (x:LineM):Prop:=∃ v,w.cell? ⟨g,o,none⟩=some (.int .i64 (x.no:Nat))∧w.cell? ⟨g,o+1,none⟩=some (.bool x.head)∧w.cell? ⟨g,o+2,none⟩=some v∧StrsIn w v x.words
theorem LineR.firm:Firm LineR:=fun _ _ _ _ _ ⟨v,h1,h2,h3,h4⟩ hb=>⟨v,cell_keep h1 hb,cell_keep h2 hb,cell_keep h3 hb,h4.keep StrR.firm hb⟩
abbrev LinesIn (w:World) (v:Value) (l:List LineM):Prop:=SlIn LineR 3 w v l
theorem fl_get {α:Type}{enc:α→List Value}{size:Nat}(he:∀ x,(enc x).length=size):∀ {l:List α}{i:Nat}{x:α}{k:Nat},l[i]?=some x→k<size→(l.flatMap enc)[i*size+k]?=(enc x)[k]?
 | [],i,x,k,h,_=>by simp at h
 | y :: l,0,x,k,h,hk=>by
   simp only[List.getElem?_cons_zero,Option.some.injEq]at h
   subst h
   rw[List.flatMap_cons,Nat.zero_mul,Nat.zero_add,List.getElem?_append_left (by rw[he];exact hk)]
 | y :: l,i+1,x,k,h,hk=>by
   have ih:=fl_get he (l:=l) (i:=i) (x:=x) (k:=k) (by simpa using h) hk
   rw[List.flatMap_cons,List.getElem?_append_right (by rw[he,Nat.add_mul];omega),he,← ih]
   congr 1
   rw[Nat.add_mul];omega
theorem OwnK.slIn {α:Type}{Kd:Value→Prop}{enc:α→List Value}{size:Nat}(he:∀ x,(enc x).length=size) {R:World→Nat→Nat→α→Prop}{w:World}{B:Nat}{e:TypeId}{v:Value}{l:List α}(h:OwnK Kd w B e size v l.length (l.flatMap enc))
 (hR:∀ g i x,l[i]?=some x→(∀ k u,(enc x)[k]?=some u→w.cell? ⟨g,i*size+k,none⟩=some u)→R w g (i*size) x):SlIn R size w v l:=by
 obtain ⟨A,c,h1,h2,h3⟩:=h.sl
 refine ⟨A,c,h1,h2,fun i x hx=>?_⟩
 have hcell:∀ k u,(enc x)[k]?=some u→∃ g,A=some ⟨g,0,none⟩∧w.cell? ⟨g,i*size+k,none⟩=some u:=fun k u hu=>by
  have hk:k<size:=by rw[← he x];exact (List.getElem?_eq_some_iff.1 hu).1
  exact h3 _ u (by rw[fl_get he hx hk];exact hu)
 obtain ⟨_,⟨hv,h0⟩|⟨g,cap,cur,hv,_⟩⟩:=h
 ·have:l = []:=List.eq_nil_of_length_eq_zero h0
  subst this;simp at hx
 ·rw[h1]at hv
  injection hv with hA _ _
  refine ⟨g,0,hA,?_⟩
  rw[Nat.zero_add]
  refine hR g i x hx fun k u hu=>?_
  obtain ⟨g',hg',hc⟩:=hcell k u hu
  rw[hA]at hg'
  injection hg' with hg'
  injection hg' with hg'
  rw[hg'];exact hc
end Vic
end
section
namespace Vic
open Go Go.RowKit
def mget (kv:List (List UInt8 × Value)) (s:List UInt8):Option Value:=(kv.find? fun p=>p.1 == s).map (·.2)
def Stp (es:Array MapEntry) (clock:Nat):Prop:=(∀ x∈es.toList,x.born<clock)∧(es.toList.map (·.born)).Nodup
def StrMap (w:World) (m:Nat) (f:List UInt8→Option Value):Prop:=
 ∃ es clock kv,w.heap[m]?=some (.map es clock)∧es.toList.map (fun e:MapEntry=>(e.key,e.val))=kv.map (fun p:List UInt8 × Value=>(Value.string ⟨p.1.toArray⟩,p.2))∧(∀ s,mget kv s=f s)∧Stp es clock
theorem StrMap.lt {w:World}{m:Nat}{f:List UInt8→Option Value}(h:StrMap w m f):m<w.heap.size:=by
 obtain ⟨es,c,kv,h1,_⟩:=h
 rcases Nat.lt_or_ge m w.heap.size with h2|h2
 ·exact h2
 ·rw[Array.getElem?_eq_none h2]at h1;cases h1
theorem StrMap.stay {w w':World}{m:Nat}{f:List UInt8→Option Value}(h:StrMap w m f) (hb:w'.heap[m]?=w.heap[m]?):StrMap w' m f:=by
 obtain ⟨es,c,kv,h1,h2⟩:=h
 exact ⟨es,c,kv,hb.trans h1,h2⟩
theorem StrMap.keep {w w':World}{m:Nat}{f:List UInt8→Option Value}(h:StrMap w m f) (hb:Below w.heap.size w w'):StrMap w' m f:=h.stay (hb.block _ h.lt)
theorem StrMap.congr {w:World}{m:Nat}{f g:List UInt8→Option Value}(h:StrMap w m f) (e:∀ s,f s=g s):StrMap w m g:=by
 obtain ⟨es,c,kv,h1,h2,h3,h4⟩:=h
 exact ⟨es,c,kv,h1,h2,fun s=>(h3 s).trans (e s),h4⟩
theorem StrMap.cell {w:World}{m:Nat}{f:List UInt8→Option Value}(h:StrMap w m f) (o:Nat):w.cell? ⟨m,o,none⟩=none:=by
 obtain ⟨es,c,kv,h1,_⟩:=h
 simp[World.cell?,h1]
variable {P:Program}
theorem StrMap.clear {t kt et ty:TypeId}(ht:P.underlying t=some (.map kt et)) {w:World}{m:Nat}{f:List UInt8→Option Value}(h:StrMap w m f) :
 ∃ w',(Builtin.clear_ #[t] ty #[.map (some m)]).run P w=.ok (.tuple #[]) w'∧StrMap w' m (fun _=>none)∧w.grownBy w' (some m)∧w'.heap.size=w.heap.size:=by
 have hlt:=h.lt
 obtain ⟨es,cl,kv,h1,h2,h3,h9⟩:=h
 refine ⟨{ w with heap:=w.heap.setIfInBounds m (.map #[] cl) },?_,?_,?_,by simp⟩
 ·simp[Builtin.clear_,run_underlying ht,MapKept.run_getObj_map h1,MapKept.run_setObj_map _ h1,Result.andThen]
 ·exact ⟨#[],cl,[],by show (w.heap.setIfInBounds m _)[m]?=_;rw[Array.getElem?_setIfInBounds_self];rw[if_pos hlt],rfl,fun s=>rfl,by simp[Stp]⟩
 ·refine ⟨rfl,rfl,rfl,by simp,fun j hj hne=>?_⟩
  show (w.heap.setIfInBounds m _)[j]?=_
  rw[Array.getElem?_setIfInBounds_ne]
  intro e;exact hne (by rw[e])
def inSet (ks:List (List UInt8)) (s:List UInt8):Option Value:=if s∈ks then some (.bool true)else none
end Vic
end
section
namespace Vic
open Go
theorem rval_set (B:Nat) (o:List Nat) (k d:Nat) (h:k<o.length):val B (o.set k d)+B ^ k*o.getD k 0=val B o+B ^ k*d:=by
 induction o generalizing k with
 | nil=>simp at h
 | cons x o ih=>
   cases k with
   | zero=>simp[val];omega
   | succ k=>
     have h1:=ih k (by simpa using h)
     have e:=congrArg (B * ·) h1
     simp only[Nat.mul_add]at e
     simp only[List.set_cons_succ,val_cons,List.getD_cons_succ,Nat.pow_succ]
     have e1:∀ y,B ^ k*B*y=B*(B ^ k*y):=fun y=>by rw[Nat.mul_comm (B ^ k) B,Nat.mul_assoc]
     rw[e1,e1]
     omega
theorem dig_of_getD {B:Nat}{l:List Nat}(h:∀ j,j<l.length→l.getD j 0<B):dig B l:=fun d hd=>by
 obtain ⟨j,hj,rfl⟩:=List.getElem_of_mem hd
 have:=h j hj
 rwa [List.getD_eq_getElem?_getD,List.getElem?_eq_getElem hj]at this
structure RMul (B:Nat) (a b o:List Nat) (i k:Nat):Prop where
 len:o.length=a.length+b.length+1
 here:k<b.length→o.getD (i+k) 0≤2*B
 rest:∀ j,(k<b.length→j≠i+k)→o.getD j 0≤B
 zero:k<b.length→∀ j,i+b.length≤j→o.getD j 0=0
 zero2:∀ j,i+b.length<j→o.getD j 0=0
 all:k=0→∀ j,o.getD j 0≤B
 v:val B o=val B (a.take i)*val B b+B ^ i*a.getD i 0*val B (b.take k)
theorem mul_carry {B x p q:Nat}(hB:1<B) (hx:x≤2*B) (hp:p<B) (hq:q<B):(x+p*q) / B≤B:=by
 have h1:p*q≤(B - 1)*(B - 1):=Nat.mul_le_mul (by omega) (by omega)
 have h2:(B - 1)*(B - 1)+2*B=B*B+1:=by
  obtain ⟨c,rfl⟩:∃ c,B=c+1:=⟨B - 1,by omega⟩
  simp only[Nat.add_sub_cancel,Nat.mul_add,Nat.add_mul];omega
 have h3:x+p*q<(B+1)*B:=by rw[Nat.add_mul];omega
 have:=(Nat.div_lt_iff_lt_mul (by omega:0<B)).2 h3
 omega
theorem RMul.step {B:Nat}{a b o:List Nat}{i k:Nat}(h:RMul B a b o i k) (hB:1<B) (ha:dig B a) (hb:dig B b) (hi:i<a.length) (hk:k<b.length) :
 RMul B a b ((o.set (i+k) ((o.getD (i+k) 0+a.getD i 0*b.getD k 0) % B)).set (i+k+1) (o.getD (i+k+1) 0+(o.getD (i+k) 0+a.getD i 0*b.getD k 0) / B)) i (k+1):=by
 have hl:=h.len
 have b1:=dig_getD ha (by omega) i
 have b2:=dig_getD hb (by omega) k
 have hc:=mul_carry hB (h.here hk) b1 b2
 have hr:=h.rest (i+k+1) (fun _=>by omega)
 have hm:(o.getD (i+k) 0+a.getD i 0*b.getD k 0) % B<B:=Nat.mod_lt _ (by omega)
 have hdm:=Nat.div_add_mod (o.getD (i+k) 0+a.getD i 0*b.getD k 0) B
 have hv:=h.v
 generalize hC:(o.getD (i+k) 0+a.getD i 0*b.getD k 0) / B=C at *
 generalize hM:(o.getD (i+k) 0+a.getD i 0*b.getD k 0) % B=Mo at *
 have g1:∀ j,j≠i+k→j≠i+k+1→((o.set (i+k) Mo).set (i+k+1) (o.getD (i+k+1) 0+C)).getD j 0=o.getD j 0:=fun j e1 e2=>by
  rw[set_getD_other _ _ _ _ e2,set_getD_other _ _ _ _ e1]
 have g2:((o.set (i+k) Mo).set (i+k+1) (o.getD (i+k+1) 0+C)).getD (i+k+1) 0=o.getD (i+k+1) 0+C:=set_getD_same _ _ _ (by simp;omega)
 have g3:((o.set (i+k) Mo).set (i+k+1) (o.getD (i+k+1) 0+C)).getD (i+k) 0=Mo:=by
  rw[set_getD_other _ _ _ _ (by omega),set_getD_same _ _ _ (by omega)]
 refine ⟨by simp[hl],fun hk1=>?_,fun j hj=>?_,fun hk1 j hj=>?_,fun j hj=>?_,?_,?_⟩
 ·rw[show i+(k+1)=i+k+1 by omega,g2];omega
 ·by_cases e1:j=i+k
  ·subst e1;rw[g3];omega
  ·by_cases e2:j=i+k+1
   ·subst e2
    rw[g2]
    have hkb:k+1=b.length:=by
     rcases Nat.lt_or_ge (k+1) b.length with h5|h5
     ·exact absurd (by omega) (hj h5)
     ·omega
    rw[h.zero hk (i+k+1) (by omega)];omega
   ·rw[g1 j e1 e2];exact h.rest j (fun _=>e1)
 ·rw[g1 j (by omega) (by omega)];exact h.zero hk j hj
 ·rw[g1 j (by omega) (by omega)];exact h.zero2 j hj
 ·intro e;omega
 ·have h3:=rval_set B (o.set (i+k) Mo) (i+k+1) (o.getD (i+k+1) 0+C) (by simp;omega)
  rw[set_getD_other _ _ _ _ (by omega)]at h3
  have h4:=rval_set B o (i+k) Mo (by omega)
  have h5:B ^ (i+k+1)*(o.getD (i+k+1) 0+C)+B ^ (i+k)*Mo=B ^ (i+k+1)*o.getD (i+k+1) 0+B ^ (i+k)*o.getD (i+k) 0+B ^ i*a.getD i 0*(B ^ k*b.getD k 0):=by
   have e1:B ^ (i+k+1)*C=B ^ (i+k)*(B*C):=by rw[Nat.pow_succ,Nat.mul_assoc]
   have e2:B ^ i*a.getD i 0*(B ^ k*b.getD k 0)=B ^ (i+k)*(a.getD i 0*b.getD k 0):=by
    rw[Nat.pow_add];simp only[Nat.mul_assoc,Nat.mul_left_comm]
   rw[Nat.mul_add,e1,e2,Nat.add_assoc,← Nat.mul_add,hdm,Nat.mul_add,← Nat.add_assoc]
  rw[val_take_step,Nat.mul_add]
  omega
theorem RMul.next {B:Nat}{a b o:List Nat}{i:Nat}(h:RMul B a b o i b.length) (hi:i<a.length):RMul B a b o (i+1) 0:=
 ⟨h.len,fun hk=>Nat.le_trans (h.rest _ (fun hk=>by omega)) (by omega),fun j _=>h.rest j (fun hk=>by omega),fun _ j hj=>h.zero2 j (by omega),fun j hj=>h.zero2 j (by omega),fun _ j=>h.rest j (fun hk=>by omega),by
  rw[h.v,val_take_step,val_take_all B b _ (Nat.le_refl _),Nat.add_mul]
  simp[val]⟩
structure RNorm (B n:Nat) (o:List Nat) (m k:Nat):Prop where
 len:o.length=n
 low:∀ j,j<k→o.getD j 0<B
 here:o.getD k 0≤2*B
 high:∀ j,k<j→o.getD j 0≤B
 v:val B o=m
theorem RNorm.step {B n:Nat}{o:List Nat}{m k:Nat}(h:RNorm B n o m k) (hB:2<B) (hk:k+1<n) :
 RNorm B n ((o.set (k+1) (o.getD (k+1) 0+o.getD k 0 / B)).set k (o.getD k 0 % B)) m (k+1):=by
 have hl:=h.len
 have hh:=h.here
 have h1:=h.high (k+1) (by omega)
 have hm:o.getD k 0 % B<B:=Nat.mod_lt _ (by omega)
 have hdm:=Nat.div_add_mod (o.getD k 0) B
 have hc:o.getD k 0 / B≤2:=by
  have:=(Nat.div_lt_iff_lt_mul (by omega:0<B)).2 (show o.getD k 0<3*B by omega)
  omega
 generalize hC:o.getD k 0 / B=C at *
 generalize hM:o.getD k 0 % B=Mo at *
 refine ⟨by simp[hl],fun j hj=>?_,?_,fun j hj=>?_,?_⟩
 ·by_cases e:j=k
  ·subst e;rw[set_getD_same _ _ _ (by simp;omega)];exact hm
  ·rw[set_getD_other _ _ _ _ e,set_getD_other _ _ _ _ (by omega)];exact h.low j (by omega)
 ·rw[set_getD_other _ _ _ _ (by omega),set_getD_same _ _ _ (by omega)];omega
 ·rw[set_getD_other _ _ _ _ (by omega),set_getD_other _ _ _ _ (by omega)];exact h.high j (by omega)
 ·have h3:=rval_set B (o.set (k+1) (o.getD (k+1) 0+C)) k Mo (by simp;omega)
  rw[set_getD_other _ _ _ _ (by omega)]at h3
  have h4:=rval_set B o (k+1) (o.getD (k+1) 0+C) (by omega)
  have e1:B ^ (k+1)*C=B ^ k*(B*C):=by rw[Nat.pow_succ,Nat.mul_assoc]
  have e2:B ^ k*(B*C)+B ^ k*Mo=B ^ k*o.getD k 0:=by rw[← Nat.mul_add,hdm]
  have h2:=h.v
  rw[Nat.mul_add]at h4
  omega
theorem RNorm.done {B n:Nat}{o:List Nat}{m k:Nat}(h:RNorm B n o m k) (hB:1<B) (hk:k+1=n) (hm:m<B ^ k):dig B o∧val B o=m:=by
 refine ⟨dig_of_getD fun j hj=>?_,h.v⟩
 have hl:=h.len
 by_cases e:j=k
 ·subst e
  have h1:=val_split B o j
  rw[h.v]at h1
  have h2:=val_drop_step B o j
  rw[show o.drop (j+1) = []from List.drop_of_length_le (by omega)]at h2
  simp only[val_nil,Nat.mul_zero,Nat.add_zero]at h2
  rw[h2]at h1
  have h3:B ^ j*o.getD j 0<B ^ j:=by omega
  rcases Nat.eq_zero_or_pos (o.getD j 0)with h4|h4
  ·omega
  ·have:=Nat.le_mul_of_pos_right (B ^ j) h4
   omega
 ·exact h.low j (by omega)
theorem isetD_same (o:List Int) (k:Nat) (d:Int) (h:k<o.length):(o.set k d).getD k 0=d:=by
 simp[List.getD_eq_getElem?_getD,h]
theorem isetD_other (o:List Int) (k j:Nat) (d:Int) (h:j≠k):(o.set k d).getD j 0=o.getD j 0:=by
 simp[List.getD_eq_getElem?_getD,List.getElem?_set_ne (Ne.symm h)]
structure RDiv (B b:Nat) (a q:List Nat) (i r:Nat):Prop where
 len:q.length=a.length
 dg:dig B q
 low:∀ j,j<i→q.getD j 0=0
 lt:r<b
 v:val B (a.drop i)=b*val B (q.drop i)+r
theorem RDiv.step {B b:Nat}{a q:List Nat}{i r:Nat}(h:RDiv B b a q (i+1) r) (hB:0<B) (ha:dig B a) (hi:i<a.length) :
 (a.getD i 0+B*r) / b<B∧RDiv B b a (q.set i ((a.getD i 0+B*r) / b)) i ((a.getD i 0+B*r) % b):=by
 have hl:=h.len
 have hb:0<b:=Nat.lt_of_le_of_lt (Nat.zero_le _) h.lt
 have b1:=dig_getD ha hB i
 have hr:=h.lt
 have hlt:(a.getD i 0+B*r) / b<B:=by
  rw[Nat.div_lt_iff_lt_mul hb]
  have:B*(r+1)≤B*b:=Nat.mul_le_mul_left _ hr
  rw[Nat.mul_add]at this
  omega
 refine ⟨hlt,by simp[hl],dig_set h.dg hlt _,fun j hj=>?_,Nat.mod_lt _ hb,?_⟩
 ·rw[set_getD_other _ _ _ _ (by omega)];exact h.low j (by omega)
 ·rw[val_drop_step B a i,h.v,val_drop_step B (q.set i _) i,set_getD_same _ _ _ (by omega)]
  have e:(q.set i ((a.getD i 0+B*r) / b)).drop (i+1)=q.drop (i+1):=by
   rw[List.drop_set];simp
  rw[e]
  have:=Nat.div_add_mod (a.getD i 0+B*r) b
  rw[Nat.mul_add,Nat.mul_add,Nat.mul_left_comm b B]
  omega
theorem RDiv.done {B b:Nat}{a q:List Nat}{r:Nat}(h:RDiv B b a q 0 r):val B q=val B a / b∧r=val B a % b:=by
 have hv:=h.v
 simp only[List.drop_zero]at hv
 have hb:0<b:=Nat.lt_of_le_of_lt (Nat.zero_le _) h.lt
 rw[hv]
 constructor
 ·rw[Nat.mul_add_div hb,Nat.div_eq_of_lt h.lt];rfl
 ·rw[Nat.mul_add_mod,Nat.mod_eq_of_lt h.lt]
structure RGet (l:List UInt8) (m:Nat) (n:List Nat) (w d:Nat):Prop where
 le:m≤l.length
 ok:∀ c∈l.drop m,isDig c=true
 dg:dig 10000 n
 wd:w=1∨w=10∨w=100∨w=1000
 dw:d<w
 nl:n.length+m≤l.length
 v:val 10000 n+10000 ^ n.length*d=numOf 0 (l.drop m)
 p:m≠0→10000 ^ n.length*w=10 ^ (l.length - m)
theorem RGet.value {l:List UInt8}{m:Nat}{n:List Nat}{w d:Nat}(h:RGet l (m+1) n w d) {c:UInt8}(hc:l[m]?=some c) :
 l.drop m=c :: l.drop (m+1)∧numOf 0 (l.drop m)=val 10000 n+10000 ^ n.length*(d+(c.toNat - 48)*w):=by
 have hm:=(List.getElem?_eq_some_iff.1 hc).1
 have e:l.drop m=c :: l.drop (m+1):=by
  rw[List.drop_eq_getElem_cons hm]
  congr 1
  rw[List.getElem?_eq_getElem hm]at hc
  injection hc
 refine ⟨e,?_⟩
 rw[e,numOf_cons,numOf_acc,← h.v,List.length_drop,← h.p (by omega)]
 rw[Nat.zero_mul,Nat.zero_add,Nat.mul_add,Nat.mul_left_comm (10000 ^ n.length)]
 omega
theorem RGet.bound {l:List UInt8}{m:Nat}{n:List Nat}{w d:Nat}(h:RGet l (m+1) n w d) {c:UInt8}(hd:isDig c=true):d+(c.toNat - 48)*w<10*w:=by
 have h1:=isDig_iff.1 hd
 have h2:=h.dw
 have h3:(c.toNat - 48)*w≤9*w:=Nat.mul_le_mul_right _ (by omega)
 omega
theorem RGet.put {l:List UInt8}{m:Nat}{n:List Nat}{w d:Nat}(h:RGet l (m+1) n w d) {c:UInt8}(hc:l[m]?=some c) (hd:isDig c=true) (hw:w*10=10000∨m=0) :
 RGet l m (n ++ [d+(c.toNat - 48)*w]) 1 0:=by
 obtain ⟨e,hv⟩:=h.value hc
 have hb:=h.bound hd
 have hl:=h.le
 refine ⟨by omega,fun x hx=>?_,dig_append.2 ⟨h.dg,dig_cons.2 ⟨?_,dig_nil _⟩⟩,.inl rfl,by omega,by have:=h.nl;simp;omega,?_,fun hm=>?_⟩
 ·rw[e]at hx
  rcases List.mem_cons.1 hx with rfl|hx
  ·exact hd
  ·exact h.ok x hx
 ·rcases h.wd with h1|h1|h1|h1<;>omega
 ·rw[val_snoc,hv,Nat.mul_zero,Nat.add_zero]
 ·rw[List.length_append,show ([d+(c.toNat - 48)*w]:List Nat).length=1 from rfl,Nat.pow_add,Nat.pow_one,Nat.mul_one]
  have h1:=h.p (by omega)
  have h2:w*10=10000:=by rcases hw with h2|h2<;>omega
  rw[show l.length - m=l.length - (m+1)+1 by omega,Nat.pow_succ,← h1,Nat.mul_assoc,h2]
theorem RGet.done {l:List UInt8}{n:List Nat}{w d:Nat}(h:RGet l 0 n w d) (hd:d=0):(∀ c∈l,isDig c=true)∧val 10000 n=numOf 0 l:=by
 have h1:=h.ok;have h2:=h.v
 simp only[List.drop_zero,hd,Nat.mul_zero,Nat.add_zero]at h1 h2
 exact ⟨h1,h2⟩
end Vic
end
section
namespace Vic
open Go Go.RowKit
def Above (B:Nat) (v:Value):Prop:=∀ A l c,v=.slice A l c→∀ b o,A=some ⟨b,o,none⟩→B≤b
theorem Above.mono {B C:Nat}{v:Value}(h:Above B v) (hc:C≤B):Above C v:=fun A l c h1 b o h2=>Nat.le_trans hc (h A l c h1 b o h2)
abbrev tdg (n:Nat):List Nat:=digs 10000 n
def RefN (w:World) (v:Value) (n:Nat):Prop:=Ints .i64 w v (tdg n)
theorem RefN.keep {w w':World}{v:Value}{n:Nat}(h:RefN w v n) (hb:Below w.heap.size w w'):RefN w' v n:=Ints.keep h hb
theorem Ints.at_ {k:IntKind}{w:World}{A:Option Addr}{c:Nat}{l:List Nat}(h:Ints k w (.slice A l.length c) l) (i:Nat) (hi:i<l.length) :
 ∃ b o,A=some ⟨b,o,none⟩∧w.cell? ⟨b,o+i,none⟩=some (.int k ((l.getD i 0:Nat):Int)):=by
 obtain ⟨A',c',hv,_,hcell⟩:=h
 injection hv with h1 h2 h3
 subst h1
 exact hcell i hi
end Vic
namespace Go.Proofs.YtbdfhnelmojbpaaGreatDoor
open Go.RowKit Vic
end Go.Proofs.YtbdfhnelmojbpaaGreatDoor
end
section
namespace Vic
open Go Go.RowKit
def Front (cur:Array Value) (o:List Int):Prop:=∀ j,j<o.length→cur[j]?=some (.int .i64 (o.getD j 0))
theorem Front.set {cur:Array Value}{o:List Int}(h:Front cur o) {k:Nat}(hk:k<o.length) (d:Int):Front (cur.setIfInBounds k (.int .i64 d)) (o.set k d):=fun j hj=>by
 rw[List.length_set]at hj
 have h1:=h k hk
 have hks:k<cur.size:=(Array.getElem?_eq_some_iff.1 h1).1
 by_cases e:j=k
 ·subst e
  rw[isetD_same _ _ _ hj]
  simp[hks]
 ·rw[isetD_other _ _ _ _ e,Array.getElem?_setIfInBounds_ne (Ne.symm e)]
  exact h j hj
end Vic
namespace Go.Proofs.YtbdfhnelmojbpaaGreatDoor
open Go.RowKit Vic
end Go.Proofs.YtbdfhnelmojbpaaGreatDoor
end
