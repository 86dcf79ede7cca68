/- A machine for closed runs: what else is quick is sound. No program in sight. -/
import Derived.Test.YtbdfhnelmojbpaaGreatDoorWah
import Derived.Test.YtbdfhnelmojbpaaGreatDoorProg
import Derived.Laws.Externs
import Derived.ProofKit
import Derived.Lib.ItoaNum
import Derived.Lib.LaidTab
set_option linter.unusedVariables false
set_option linter.unusedSimpArgs false
section
namespace Am
open Go
noncomputable section
variable {P:Program}{K:Known}{nt:Nat}{dst:Option Tmp}{x y z:Operand}{f f' h':Nat→Nat}{g g':T AV→Option AV}
theorem vUn_dec {c:Nat}(h:vUn c=0):c≠1∧∃ a,∀ bx,dec c bx=some a:=by
 obtain ⟨h1,h2⟩:=add0 h
 have h1:2≤c % 32:=sub0 h1
 have h2:c % 32≤23:=sub0 h2
 refine ⟨by omega,?_⟩
 have key:∃ a,∀ bx,decG (c % 32) (c / 32) bx=some a:=by
  generalize c / 32=p
  generalize c % 32=t at h1 h2
  have:t=2∨t=3∨t=4∨t=5∨t=6∨t=7∨t=8∨t=9∨t=10∨t=11∨t=12∨t=13∨t=14∨t=15∨t=16∨t=17∨t=18∨t=19∨t=20∨t=21∨t=22∨t=23:=by omega
  rcases this with rfl|rfl|rfl|rfl|rfl|rfl|rfl|rfl|rfl|rfl|rfl|rfl|rfl|rfl|rfl|rfl|rfl|rfl|rfl|rfl|rfl|rfl<;>exact ⟨_,fun bx=>rfl⟩
 exact key
theorem vB_two {c:Nat}(h:vB c=0):c=2∨c=34:=by
 obtain ⟨h1,h2⟩:=add0 h
 have h1:c % 32=2:=xor_zero h1
 have h2:c / 32≤1:=sub0 h2
 omega
theorem b_op (h:OpdOk K x f g) {n:Nat}{t:T AV}(hv:f n=2∨f n=34):evo K ⟨n,t⟩ x=some (.b (Nat.beq (f n) 34)):=by
 rw[(h n).2 t]
 rcases hv with e|e<;>rw[e]<;>rfl
theorem fPick_ok (hz:OpdOk K z h' g) {g1 g2:T AV→Option AV}(hx:OpdOk K x f g1) (hy:OpdOk K y f' g2):FastOk P K nt dst (.pick z x y) (fPick h' f f'):=by
 intro n t S h
 obtain ⟨h1,h2⟩:=add0 h
 have hb:=b_op hz (t:=t) (vB_two h1)
 have main:∀ (w:Operand) (fw:Nat→Nat) (gw:T AV→Option AV),OpdOk K w fw gw→vUn (fw n)=0→apure P (evo K ⟨n,t⟩) (.pick z x y)=evo K ⟨n,t⟩ w→fw n<2 ^ 192∧∃ a,(∀ bx,dec (fw n) bx=some a)∧∀ ih,aop0 P K ih S (evo K ⟨n,t⟩) (.pick z x y)=.ok a S:=by
  intro w fw gw hw hv he
  obtain ⟨_,a,ha⟩:=vUn_dec hv
  refine ⟨(hw n).1,a,ha,fun ih=>aop0_pure ?_⟩
  rw[he,(hw n).2 t,ha]
 cases hc:Nat.beq (h' n) 34 with
 | true=>
   rw[hc]at h2 hb
   have e:(Bool.rec (f' n) (f n) (Nat.beq (h' n) 34):Nat)=f n:=by rw[hc]
   show (Bool.rec (f' n) (f n) (Nat.beq (h' n) 34):Nat)<2 ^ 192∧∃ a,(∀ bx,dec (Bool.rec (f' n) (f n) (Nat.beq (h' n) 34):Nat) bx=some a)∧_
   rw[e]
   exact main x f g1 hx h2 (by simp only[apure,hb,cond_true])
 | false=>
   rw[hc]at h2 hb
   have e:(Bool.rec (f' n) (f n) (Nat.beq (h' n) 34):Nat)=f' n:=by rw[hc]
   show (Bool.rec (f' n) (f n) (Nat.beq (h' n) 34):Nat)<2 ^ 192∧∃ a,(∀ bx,dec (Bool.rec (f' n) (f n) (Nat.beq (h' n) 34):Nat) bx=some a)∧_
   rw[e]
   exact main y f' g2 hy h2 (by simp only[apure,hb,cond_false])
theorem fNot_ok {ty:TypeId}(hx:OpdOk K x f g):FastOk P K nt dst (.unOp .not ty x) (fNot f):=by
 intro n t S h
 have hv:=vB_two h
 have hb:=b_op hx (t:=t) hv
 show Nat.sub 36 (f n)<2 ^ 192∧∃ a,(∀ bx,dec (Nat.sub 36 (f n)) bx=some a)∧_
 rcases hv with e|e<;>rw[e]at hb ⊢
 ·exact ⟨by decide,.b true,fun bx=>rfl,fun ih=>aop0_pure (by simp only[apure,hb];rfl)⟩
 ·exact ⟨by decide,.b false,fun bx=>rfl,fun ih=>aop0_pure (by simp only[apure,hb];rfl)⟩
theorem dec_p {c:Nat}(h:vP c=0) (bx:Option AV):dec c bx=some (.p (m32 (pl c)) (d32 (pl c))):=by
 have h:c % 32=3:=xor_zero h
 show decG (c % 32) (c / 32) bx=_
 rw[h];rfl
theorem p_op (h:OpdOk K x f g) {n:Nat}{t:T AV}(hv:vP (f n)=0):evo K ⟨n,t⟩ x=some (.p (m32 (pl (f n))) (d32 (pl (f n)))):=by
 rw[(h n).2 t];exact dec_p hv _
theorem fNil_ok (hx:OpdOk K x f g):FastOk P K nt dst (.nilCheck x) (fNil f):=by
 intro n t S h
 have hb:=p_op hx (t:=t) h
 exact ⟨(hx n).1,_,fun bx=>dec_p h bx,fun ih=>aop0_pure (by simp only[apure,hb])⟩
theorem d69 (c:Nat):Nat.mod (Nat.shiftRight c 69) 4294967296=m32 (d32 (d32 (pl c))):=by
 show (c >>> 69) % 4294967296=(c / 32 / 4294967296 / 4294967296) % 4294967296
 rw[Nat.shiftRight_eq_div_pow,Nat.div_div_eq_div_mul,Nat.div_div_eq_div_mul]
theorem d101 (c:Nat):Nat.mod (Nat.shiftRight c 101) 65536=Nat.mod (d32 (d32 (d32 (pl c)))) 65536:=by
 show (c >>> 101) % 65536=(c / 32 / 4294967296 / 4294967296 / 4294967296) % 65536
 rw[Nat.shiftRight_eq_div_pow,Nat.div_div_eq_div_mul,Nat.div_div_eq_div_mul,Nat.div_div_eq_div_mul]
theorem isSl_ok {t:TypeId}(h:isSl P t=0):∃ e,und P t=some (.slice e):=by
 unfold isSl at h
 split at h
 ·rename_i e he;exact ⟨e,he⟩
 ·cases h
theorem lt_m32 (x:Nat):m32 x<4294967296:=Nat.mod_lt _ (by decide)
theorem amap_one {ρ:Rho}{x:Operand}{a:AV}(h:ρ x=some a):amap ρ [x]=some [a]:=by show obl (ρ x) (some [])=some [a];rw[h];rfl
theorem fLen_ok {c:Call}{ty:TypeId}(hcal:c.callee=.builtin .len) (hargs:c.args.toList = [x]) (htys:c.argTypes.toList = [ty]) (hx:OpdOk K x f g):FastOk P K nt dst (.call c) (fLen P ty f):=by
 intro n t S h
 obtain ⟨h1,h2⟩:=add0 h
 obtain ⟨h2,h3⟩:=add0 h2
 obtain ⟨e,he⟩:=isSl_ok h1
 have h2:17≤f n % 32:=sub0 h2
 have h3:f n % 32≤19:=sub0 h3
 have main:∀ a k,evo K ⟨n,t⟩ x=some a→alen P ty a=some (.i .i64 (.ofNat k))→k<4294967296→lenC (f n)=tagd 7 k→lenC (f n)<2 ^ 192∧∃ a,(∀ bx,dec (lenC (f n)) bx=some a)∧∀ ih,aop0 P K ih S (evo K ⟨n,t⟩) (.call c)=.ok a S:=by
  intro a k ha hk hlt hr
  rw[hr]
  refine ⟨tagd_lt (by decide) (by omega),.i .i64 (.ofNat k),fun bx=>dec_tagI (g:=7) (by decide) (by decide) bx,fun ih=>aop0_pure ?_⟩
  simp only[apure,hcal,hargs,htys,amap_one ha,abul,hk]
 have hev:=(hx n).2 t
 have hl:lenC (f n)=tagd 7 (m32 (d32 (d32 (pl (f n))))*(1 - (1 - (f n % 32 - 17)))):=by unfold lenC;rw[d69];rfl
 have hg:f n % 32=17∨f n % 32=18∨f n % 32=19:=by omega
 have hd:dec (f n) (g t)=decG (f n % 32) (f n / 32) (g t):=rfl
 rcases hg with hg|hg|hg
 ·rw[hd,hg]at hev
  refine main .nsl 0 hev (by unfold alen;rw[he]) (by decide) (by rw[hl,hg];rfl)
 ·rw[hd,hg]at hev
  refine main _ (m32 (d32 (d32 (pl (f n))))) hev (by unfold alen;rw[he];rfl) (lt_m32 _) (by rw[hl,hg];exact congrArg (tagd 7) (Nat.mul_one _))
 ·rw[hd,hg]at hev
  refine main _ (m32 (d32 (d32 (pl (f n))))) hev (by unfold alen;rw[he];rfl) (lt_m32 _) (by rw[hl,hg];exact congrArg (tagd 7) (Nat.mul_one _))
theorem div_big {r:Nat}(h:Nat.div r big=0):r<2 ^ 192:=by
 have h:r / 6277101735386680763835789423207666416102355444464034512896=0:=h
 have:(2:Nat) ^ 192=6277101735386680763835789423207666416102355444464034512896:=by decide
 omega
theorem fFda_ok {s:TypeId}{i:Nat}(hx:OpdOk K x f g):FastOk P K nt dst (.fieldAddr s x i) (fFda P s f i):=by
 intro n t S h
 obtain ⟨h1,h2⟩:=add0 h
 obtain ⟨h2,h3⟩:=add0 h2
 have h2:1≤fdo P s i:=sub0 h2
 have hp:=p_op hx (t:=t) h1
 have h5:f n % 32=3:=xor_zero h1
 refine ⟨div_big h3,.p (m32 (pl (f n))) (Nat.add (d32 (pl (f n))) (Nat.pred (fdo P s i))),fun bx=>?_,fun ih=>aop0_pure ?_⟩
 ·have e:fdaC (f n) (Nat.pred (fdo P s i))=tagd 3 (Nat.add (pl (f n)) (Nat.mul 4294967296 (Nat.pred (fdo P s i)))):=by
   show f n+(Nat.pred (fdo P s i)) <<< 37=32*(f n / 32+4294967296*Nat.pred (fdo P s i))+3
   rw[Nat.shiftLeft_eq]
   have:(2:Nat) ^ 37=137438953472:=by decide
   omega
  show dec (fdaC (f n) (Nat.pred (fdo P s i))) bx=_
  rw[e,dec_tagd (by decide)]
  show some (AV.p (m32 (Nat.add (pl (f n)) (Nat.mul 4294967296 (Nat.pred (fdo P s i))))) (d32 (Nat.add (pl (f n)) (Nat.mul 4294967296 (Nat.pred (fdo P s i))))))=_
  have e1:m32 (Nat.add (pl (f n)) (Nat.mul 4294967296 (Nat.pred (fdo P s i))))=m32 (pl (f n)):=by show (_+4294967296*_) % 4294967296=_ % 4294967296;omega
  have e2:d32 (Nat.add (pl (f n)) (Nat.mul 4294967296 (Nat.pred (fdo P s i))))=Nat.add (d32 (pl (f n))) (Nat.pred (fdo P s i)):=by show (_+4294967296*_) / 4294967296=_ / 4294967296+_;omega
  rw[e1,e2]
 ·simp only[apure,hp]
  unfold fdo at h2 ⊢
  unfold afda
  split at h2
  ·rename_i fs hs
   rw[hs]
   simp only
   split at h2
   ·rename_i fd hfd
    rw[hfd]
    simp only
    split at h2
    ·rename_i k hk
     rw[hk]
     simp only
     cases hb:Nat.beq k 0 with
     | true=>rw[hb]at h2;cases h2
     | false=>rfl
    ·cases h2
   ·cases h2
  ·cases h2
theorem ixs_ok {t:TypeId}{s:Nat}(h:ixs P t=s) (h0:1≤s):∃ e,und P t=some (.slice e)∧szo P e=some (Nat.pred s):=by
 unfold ixs at h
 split at h
 ·rename_i e he
  split at h
  ·rename_i k hk
   exact ⟨e,he,by rw[← h];exact hk⟩
  ·omega
 ·omega
theorem fIxa_ok {ty:TypeId}(hx:OpdOk K x f g) (hy:OpdOk K y f' g'):FastOk P K nt dst (.indexAddr ty x y) (fIxa P ty f f'):=by
 intro n t S h
 obtain ⟨h1,hbig⟩:=add0 h
 obtain ⟨h1,h2⟩:=add0 h1
 obtain ⟨h3,h4⟩:=add0 h1
 obtain ⟨h2,h5⟩:=add0 h2
 obtain ⟨h2,h6⟩:=add0 h2
 obtain ⟨h5,h7⟩:=add0 h5
 obtain ⟨h5,h8⟩:=add0 h5
 have h3:18≤f n % 32:=sub0 h3
 have h4:f n % 32≤19:=sub0 h4
 have h5:1≤ixs P ty:=sub0 h5
 have h7:=sub0 h7
 have h8:=sub0 h8
 have h6:=sub0 h6
 rw[d69]at h6
 obtain ⟨e,he,hs⟩:=ixs_ok rfl h5
 have heC:eC (f n)=Nat.mod (d32 (d32 (d32 (pl (f n))))) 65536:=d101 _
 have hse:Nat.pred (ixs P ty)=eC (f n):=by
  have h7:eC (f n)+1≤ixs P ty:=h7
  have h8:ixs P ty≤eC (f n)+1:=h8
  show ixs P ty - 1=_
  omega
 have hi:=int_op hy (t:=t) h2
 obtain ⟨cap,hev⟩:∃ cap,evo K ⟨n,t⟩ x=some (.sl (m32 (pl (f n))) (m32 (d32 (pl (f n)))) (m32 (d32 (d32 (pl (f n))))) cap (eC (f n)) (m32 (Nat.div (d32 (d32 (d32 (pl (f n))))) 65536))):=by
  have hev:=(hx n).2 t
  have hd:dec (f n) (g t)=decG (f n % 32) (f n / 32) (g t):=rfl
  rw[heC]
  have hg:f n % 32=18∨f n % 32=19:=by omega
  rcases hg with hg|hg<;>rw[hd,hg]at hev
  ·exact ⟨_,hev⟩
  ·exact ⟨_,hev⟩
 refine ⟨div_big hbig,.p (m32 (pl (f n))) (Nat.add (m32 (d32 (pl (f n)))) (Nat.mul (pl (f' n)) (eC (f n)))),fun bx=>?_,fun ih=>aop0_pure (qixa_ok ?_)⟩
 ·show dec (ixaC (f n) (pl (f' n))) bx=_
  unfold ixaC
  rw[dec_tagd (by decide)]
  show some (AV.p (m32 (p32 _ _)) (d32 (p32 _ _)))=_
  have hz:d32 (m32 (pl (f n)))=0:=by show (_ % 4294967296) / 4294967296=0;omega
  rw[m32_p32 hz,d32_p32 hz]
 ·unfold qixa
  rw[hev]
  show ob (qbd (evo K ⟨n,t⟩) y) (fun k=>aixa P ty _ k)=_
  have hq:qbd (evo K ⟨n,t⟩) y=some (f' n / 32):=by unfold qbd;rw[hi];rfl
  rw[hq]
  show aixa P ty _ (f' n / 32)=_
  unfold aixa
  rw[he]
  simp only[hs]
  have hlt:Nat.blt (f' n / 32) (m32 (d32 (d32 (pl (f n)))))=true:=by rw[blt_iff];exact h6
  rw[hse,bq rfl,hlt];rfl
theorem oneCell_ok {t:TypeId}(h:oneCell P t=0):∃ d k,und P t=some d∧szo P t=some k∧isA d=false:=by
 unfold oneCell at h
 split at h
 ·rename_i d k hd hk
  refine ⟨d,k,hd,hk,?_⟩
  cases hA:isA d with
  | true=>rw[hA]at h;cases h
  | false=>rfl
 ·cases h
theorem ldC_ok {S:St}{i o:Nat}(h:ldC S i o≠0):∃ t cs fz ex a,S.h.get i=some (.cells t cs fz ex)∧nth cs o=some a∧ldC S i o=enc a:=by
 unfold ldC at h ⊢
 cases hb:S.h.get i with
 | none=>rw[hb]at h;exact absurd rfl h
 | some b=>
   rw[hb]at h
   cases b with
   | cells t cs fz ex=>
     have h:(Option.rec 0 (fun a=>enc a) (nth cs o):Nat)≠0:=h
     cases ha:nth cs o with
     | none=>rw[ha]at h;exact absurd rfl h
     | some a=>exact ⟨t,cs,fz,ex,a,rfl,ha,by show (Option.rec 0 (fun a=>enc a) (nth cs o):Nat)=_;rw[ha]⟩
   | map _ _=>exact absurd rfl h
   | it _ _ _=>exact absurd rfl h
theorem fLoad_ok {ty:TypeId}(hx:OpdOk K x f g):FastOk P K nt dst (.load ty x) (fLoad P ty f):=by
 intro n t S h
 obtain ⟨h1,h2⟩:=add0 h
 obtain ⟨h1,h3⟩:=add0 h1
 obtain ⟨h2,h4⟩:=add0 h2
 have hp:=p_op hx (t:=t) h1
 obtain ⟨d,k,hd,hk,hA⟩:=oneCell_ok h3
 obtain ⟨hne,_⟩:=vUn_dec h2
 have hn0:ldC S (m32 (pl (f n))) (d32 (pl (f n)))≠0:=by
  intro h0
  rw[h0]at h2;cases h2
 obtain ⟨t',cs,fz,ex,a,hb,ha,he⟩:=ldC_ok hn0
 refine ⟨div_big h4,a,fun bx=>?_,fun ih=>?_⟩
 ·show dec (ldC S _ _) bx=_
  rw[he]at hne ⊢
  rcases dec_enc a bx with h5|h5
  ·exact absurd h5 hne
  ·exact h5
 ·have e0:apure P (evo K ⟨n,t⟩) (.load ty x)=none:=rfl
  have e1:ard P S.lk (evo K ⟨n,t⟩) (.load ty x)=some a:=by
   have hlk:S.lk (m32 (pl (f n)))=some (.cells t' cs fz ex):=hb
   simp only[ard,aload,hp,hlk,ald,hd,hk,hA,cond_false,ha]
  simp only[aop0,aquiet,e0,e1]
theorem kof_kidx (k:IntKind):kof (Nat.add 4 (kidx k))=k:=by cases k<;>rfl
theorem fConv_ok {s d:TypeId}(hx:OpdOk K x f g):FastOk P K nt dst (.convert s d x) (fConv P s d f):=by
 intro n t S h
 obtain ⟨h1,h2⟩:=add0 h
 obtain ⟨h2,h3⟩:=add0 h2
 have h2:1≤cvk P s d:=sub0 h2
 have hi:=int_op hx (t:=t) h1
 obtain ⟨u,k,hs,hd,hk⟩:∃ u k,und P s=some u∧und P d=some (.int k)∧cvk P s d=Nat.add 4 (kidx k):=by
  unfold cvk at h2 ⊢
  split at h2
  ·rename_i u k hs hd
   exact ⟨u,k,hs,hd,rfl⟩
  ·cases h2
 have hg:4≤Nat.add 4 (kidx k)∧Nat.add 4 (kidx k)≤11:=by cases k<;>decide
 rw[hk]at h3
 show tagd (cvk P s d) (pl (f n))<2 ^ 192∧∃ a,(∀ bx,dec (tagd (cvk P s d) (pl (f n))) bx=some a)∧_
 rw[hk]
 refine ⟨tagd_lt (by omega) (lt64 hg.1 hg.2 h3),_,fun bx=>dec_tagI hg.1 hg.2 bx,fun ih=>aop0_pure ?_⟩
 have hl:pl (f n)<klim k:=by have:=lim_lt hg.1 hg.2 h3;rwa [kof_kidx]at this
 simp only[apure,hi,acv,hs,hd]
 rw[kof_kidx]
 show some (AV.i k (iwrap k (.ofNat (pl (f n)))))=_
 rw[← small_eq,small_lt hl]
theorem isSt_ok {t:TypeId}(h:isSt P t=0):und P t=some .string:=by
 unfold isSt at h
 split at h
 ·assumption
 ·cases h
theorem avS_ok {v:AV}{q:Nat→Nat→Nat}(h:avS v q≠0):∃ n x,v=.s n x∧avS v q=q n x:=by
 cases v<;>first|exact ⟨_,_,rfl,rfl⟩|exact absurd rfl h
theorem box_op (h:OpdOk K x f g) {n:Nat}{t:T AV}(hv:Nat.xor (f n) 1=0):evo K ⟨n,t⟩ x=g t:=by
 rw[(h n).2 t,xor_zero hv];exact dec_one _
theorem strL_ok {v:Option AV}(h:1≤strL v):∃ n x,v=some (.s n x)∧strL v=n+1:=by
 cases v with
 | none=>cases h
 | some v=>
   have h:1≤avS v fun n _=>Nat.succ n:=h
   obtain ⟨n,x,rfl,he⟩:=avS_ok (v:=v) (q:=fun n _=>Nat.succ n) (by omega)
   exact ⟨n,x,rfl,rfl⟩
theorem fLenS_ok {c:Call}{ty:TypeId}(hcal:c.callee=.builtin .len) (hargs:c.args.toList = [x]) (htys:c.argTypes.toList = [ty]) (hx:OpdOk K x f g):FastOk P K nt dst (.call c) (fLenS P ty f g):=by
 intro n t S h
 obtain ⟨h1,h2⟩:=add0 h
 obtain ⟨h2,h3⟩:=add0 h2
 obtain ⟨h3,h4⟩:=add0 h3
 have hs:=isSt_ok h1
 obtain ⟨k,u,hv,hk⟩:=strL_ok (sub0 h3)
 have h4:strL (g t) / 18446744073709551616=0:=h4
 have ha:evo K ⟨n,t⟩ x=some (.s k u):=by rw[box_op hx h2,hv]
 show tagd 7 (Nat.pred (strL (g t)))<2 ^ 192∧∃ a,(∀ bx,dec (tagd 7 (Nat.pred (strL (g t)))) bx=some a)∧_
 rw[hk]at h4 ⊢
 refine ⟨tagd_lt (by decide) (by show k<2 ^ 64;have:(2:Nat) ^ 64=18446744073709551616:=by decide
                                 omega),.i .i64 (.ofNat k),fun bx=>dec_tagI (g:=7) (by decide) (by decide) bx,fun ih=>aop0_pure ?_⟩
 simp only[apure,hcal,hargs,htys,amap_one ha,abul,alen,hs]
theorem strI_ok {v:Option AV}{i:Nat}(h:1≤strI v i):∃ n x,v=some (.s n x)∧i<n∧strI v i=Nat.mod (Nat.shiftRight x (8*i)) 256+1:=by
 cases v with
 | none=>cases h
 | some v=>
   have h:1≤avS v fun n x=>Bool.rec 0 (Nat.succ (Nat.mod (Nat.shiftRight x (Nat.mul 8 i)) 256)) (Nat.ble (Nat.succ i) n):=h
   obtain ⟨n,x,rfl,he⟩:=avS_ok (v:=v) (q:=fun n x=>Bool.rec 0 (Nat.succ (Nat.mod (Nat.shiftRight x (Nat.mul 8 i)) 256)) (Nat.ble (Nat.succ i) n)) (by omega)
   have h:1≤(Bool.rec 0 (Nat.succ (Nat.mod (Nat.shiftRight x (Nat.mul 8 i)) 256)) (Nat.ble (Nat.succ i) n):Nat):=h
   have e:strI (some (AV.s n x)) i=(Bool.rec 0 (Nat.succ (Nat.mod (Nat.shiftRight x (Nat.mul 8 i)) 256)) (Nat.ble (Nat.succ i) n):Nat):=rfl
   cases hb:Nat.ble (Nat.succ i) n with
   | false=>rw[hb]at h;cases h
   | true=>
     rw[hb]at e
     rw[Nat.ble_eq]at hb
     exact ⟨n,x,rfl,hb,e⟩
theorem fIdxS_ok {ty:TypeId}(hx:OpdOk K x f g) (hy:OpdOk K y f' g'):FastOk P K nt dst (.index ty x y) (fIdxS P ty f g f'):=by
 intro n t S h
 obtain ⟨h1,h2⟩:=add0 h
 obtain ⟨h1,h5⟩:=add0 h1
 obtain ⟨h2,h3⟩:=add0 h2
 have hs:=isSt_ok h1
 have hi:=int_op hy (t:=t) h5
 obtain ⟨k,u,hv,hlt,hk⟩:=strI_ok (sub0 h3)
 have ha:evo K ⟨n,t⟩ x=some (.s k u):=by rw[box_op hx h2,hv]
 show tagd 8 (Nat.pred (strI (g t) (pl (f' n))))<2 ^ 192∧∃ a,(∀ bx,dec (tagd 8 (Nat.pred (strI (g t) (pl (f' n))))) bx=some a)∧_
 rw[hk]
 refine ⟨tagd_lt (by decide) (Nat.lt_of_lt_of_le (Nat.mod_lt (Nat.shiftRight u (8*pl (f' n))) (by decide:256 > 0)) (by decide)),_,fun bx=>dec_tagI (g:=8) (by decide) (by decide) bx,fun ih=>aop0_pure (qidx_ok ?_)⟩
 unfold qidx
 rw[ha]
 have hq:qbd (evo K ⟨n,t⟩) y=some (pl (f' n)):=by unfold qbd;rw[hi];rfl
 show ob (qbd (evo K ⟨n,t⟩) y) (fun j=>aidx P ty _ j)=_
 rw[hq]
 show aidx P ty _ (pl (f' n))=_
 unfold aidx
 rw[hs]
 have hb:Nat.blt (pl (f' n)) k=true:=by rw[blt_iff];exact hlt
 simp only[hb,cond_true]
 rfl
theorem strE_ok {v u:Option AV}(h:1≤strE v u):∃ n x k y,v=some (.s n x)∧u=some (.s k y)∧strE v u=eq01 n k*eq01 x y+1:=by
 cases v with
 | none=>cases h
 | some v=>cases u with
   | none=>cases h
   | some u=>
     have h:1≤avS v fun n x=>avS u fun k y=>Nat.succ (Nat.mul (eq01 n k) (eq01 x y)):=h
     obtain ⟨n,x,rfl,he⟩:=avS_ok (v:=v) (q:=fun n x=>avS u fun k y=>Nat.succ (Nat.mul (eq01 n k) (eq01 x y))) (by omega)
     have h:1≤avS u fun k y=>Nat.succ (Nat.mul (eq01 n k) (eq01 x y)):=h
     obtain ⟨k,y,rfl,he2⟩:=avS_ok (v:=u) (q:=fun k y=>Nat.succ (Nat.mul (eq01 n k) (eq01 x y))) (by omega)
     exact ⟨n,x,k,y,rfl,rfl,rfl⟩
def EqOp (op:BinOp) (c:Nat→Nat):Prop:=(op=.eql∧c=fun x=>x)∨(op=.neq∧c=fun x=>Nat.sub 1 x)
theorem eqop_bit {op:BinOp}{c:Nat→Nat}(hc:EqOp op c) {q:Nat}{b:Bool}(hq:q=if b=true then 1 else 0) {ty uy:TypeId}{S:St}{n:Nat}{t:T AV}(h1:op=.eql→qbin P (evo K ⟨n,t⟩) op ty x y=some (.b b)) (h2:op=.neq→qbin P (evo K ⟨n,t⟩) op ty x y=some (.b (!b))) :
 bitC (c q)<2 ^ 192∧∃ a,(∀ bx,dec (bitC (c q)) bx=some a)∧∀ ih,aop0 P K ih S (evo K ⟨n,t⟩) (.binOp op ty x y uy)=.ok a S:=by
 subst hq
 rcases hc with ⟨ho,rfl⟩|⟨ho,rfl⟩
 ·refine ⟨by cases b<;>decide,.b b,fun bx=>by cases b<;>rfl,fun ih=>aop0_pure (qbin_ok (h1 ho))⟩
 ·refine ⟨by cases b<;>decide,.b (!b),fun bx=>by cases b<;>rfl,fun ih=>aop0_pure (qbin_ok (h2 ho))⟩
theorem fStrE_ok {op:BinOp}{c:Nat→Nat}(hc:EqOp op c) {ty uy:TypeId}(hx:OpdOk K x f g) (hy:OpdOk K y f' g'):FastOk P K nt dst (.binOp op ty x y uy) (fStrE c f g f' g'):=by
 intro n t S h
 obtain ⟨h1,h2⟩:=add0 h
 obtain ⟨h1,h3⟩:=add0 h1
 obtain ⟨k,u,j,v,hv1,hv2,he⟩:=strE_ok (sub0 h2)
 have ha:evo K ⟨n,t⟩ x=some (.s k u):=by rw[box_op hx h1,hv1]
 have hb:evo K ⟨n,t⟩ y=some (.s j v):=by rw[box_op hy h3,hv2]
 show bitC (c (Nat.pred (strE (g t) (g' t))))<2 ^ 192∧∃ a,(∀ bx,dec (bitC (c (Nat.pred (strE (g t) (g' t))))) bx=some a)∧_
 rw[he]
 refine eqop_bit hc (q:=eq01 k j*eq01 u v) (b:=Nat.beq k j && Nat.beq u v) ?_ (fun ho=>?_) (fun ho=>?_)
 ·rw[eq01_eq,eq01_eq]
  cases Nat.beq k j<;>cases Nat.beq u v<;>rfl
 ·subst ho;unfold qbin;rw[ha,hb];rfl
 ·subst ho;unfold qbin;rw[ha,hb];rfl
theorem isN_eq (g c:Nat):isN g c=if (Nat.beq (c % 32) g)=true then 1 else 0:=eq01_eq _ _
theorem fNils_ok {op:BinOp}{c:Nat→Nat}(hc:EqOp op c) {ty uy:TypeId}{vN:Nat→Nat}{gN:Nat}(hx:OpdOk K x f g) (hy:OpdOk K y f' g')
 (H:∀ (c c':Nat) (bx bx':Option AV),vN c=0→vN c'=0→(c % 32=gN∨c' % 32=gN)→∃ a b,dec c bx=some a∧dec c' bx'=some b ∧
  abinq P .eql ty x y a b=some (.b (Nat.beq (c % 32) gN && Nat.beq (c' % 32) gN))∧abinq P .neq ty x y a b=some (.b (!(Nat.beq (c % 32) gN && Nat.beq (c' % 32) gN)))):FastOk P K nt dst (.binOp op ty x y uy) (fNils vN gN c f f'):=by
 intro n t S h
 obtain ⟨h1,h2⟩:=add0 h
 obtain ⟨h1,h3⟩:=add0 h1
 rw[isN_eq,isN_eq]at h2
 have hor:f n % 32=gN∨f' n % 32=gN:=by
  by_cases e1:f n % 32=gN
  ·exact .inl e1
  ·by_cases e2:f' n % 32=gN
   ·exact .inr e2
   ·rw[bqn e1,bqn e2]at h2;cases h2
 obtain ⟨a,b,ha,hb,he,hn⟩:=H (f n) (f' n) (g t) (g' t) h1 h3 hor
 show bitC (c (Nat.mul (isN gN (f n)) (isN gN (f' n))))<2 ^ 192∧∃ a,(∀ bx,dec (bitC (c (Nat.mul (isN gN (f n)) (isN gN (f' n))))) bx=some a)∧_
 refine eqop_bit hc (b:=Nat.beq (f n % 32) gN && Nat.beq (f' n % 32) gN) ?_ (fun ho=>?_) (fun ho=>?_)
 ·rw[isN_eq,isN_eq]
  cases Nat.beq (f n % 32) gN<;>cases Nat.beq (f' n % 32) gN<;>rfl
 ·subst ho;unfold qbin;rw[(hx n).2 t,(hy n).2 t,ha,hb];exact he
 ·subst ho;unfold qbin;rw[(hx n).2 t,(hy n).2 t,ha,hb];exact hn
end
end Am
end
section
namespace Am
open Go
noncomputable section
variable {P:Program}{K:Known}{nt:Nat}{dst:Option Tmp}{x y:Operand}{f f':Nat→Nat}{g g':T AV→Option AV}
theorem fEq_ok {op:BinOp}{c:Nat→Nat}(hc:EqOp op c) {ty uy:TypeId}:FastOk P K nt dst (.binOp op ty x y uy) (fEq P K nt op c ty x y):=by
 obtain ⟨f,g,hf,hg,hx⟩:=oc_ok (K:=K) x nt
 obtain ⟨f',g',hf',hg',hy⟩:=oc_ok (K:=K) y nt
 have hx:OpdOk K x f g:=hx
 have hy:OpdOk K y f' g':=hy
 unfold fEq
 rw[hf,hf']
 show FastOk P K nt dst _ (match und P ty with
  | some .string=>unB (bxB K nt x) fun g=>unB (bxB K nt y) fun g'=>fStrE c f g f' g'
  | some (.pointer _)=>fNils (fun c=>vNp c) 16 c f f'
  | some (.slice _)=>fNils (fun c=>vNs c) 17 c f f'
  | some (.map _ _)=>fNils (fun c=>vNm c) 20 c f f'
  | _=>fBin op f f')
 have dg:∀ (c:Nat) (bx:Option AV),dec c bx=decG (c % 32) (c / 32) bx:=fun _ _=>rfl
 split
 ·rw[hg,hg'];exact fStrE_ok hc hx hy
 ·rename_i e he
  refine fNils_ok hc hx hy fun c c' bx bx' h1 h2 hor=>?_
  have r:∀ c,vNp c=0→c % 32=3∨c % 32=16:=fun c h=>by
   have h:(c % 32 ^^^ 3)*(c % 32 ^^^ 16)=0:=h
   rcases Nat.mul_eq_zero.1 h with h|h
   ·exact .inl (xor_zero h)
   ·exact .inr (xor_zero h)
  rw[dg c,dg c']
  rcases r c h1 with e1|e1<;>rcases r c' h2 with e2|e2<;>rw[e1,e2]
  ·omega
  ·exact ⟨_,_,rfl,rfl,by simp only[abinq,aoi,abin,aeq,aeq0,he];rfl,by simp only[abinq,aoi,abin,aeq,aeq0,he];rfl⟩
  ·exact ⟨_,_,rfl,rfl,by simp only[abinq,aoi,abin,aeq,aeq0,he];rfl,by simp only[abinq,aoi,abin,aeq,aeq0,he];rfl⟩
  ·exact ⟨_,_,rfl,rfl,by simp only[abinq,aoi,abin,aeq,aeq0,he];rfl,by simp only[abinq,aoi,abin,aeq,aeq0,he];rfl⟩
 ·rename_i e he
  refine fNils_ok hc hx hy fun c c' bx bx' h1 h2 hor=>?_
  have r:∀ c,vNs c=0→c % 32=17∨c % 32=18∨c % 32=19:=fun c h=>by
   obtain ⟨h1,h2⟩:=add0 h
   have h1:17≤c % 32:=sub0 h1
   have h2:c % 32≤19:=sub0 h2
   omega
  rw[dg c,dg c']
  rcases r c h1 with e1|e1|e1<;>rcases r c' h2 with e2|e2|e2<;>rw[e1,e2]<;>first
   | omega
   | exact ⟨_,_,rfl,rfl,by simp only[abinq,aoi,abin,aeq,aeq0,he,dsl];rfl,by simp only[abinq,aoi,abin,aeq,aeq0,he,dsl];rfl⟩
 ·rename_i e he
  refine fNils_ok hc hx hy fun c c' bx bx' h1 h2 hor=>?_
  have r:∀ c,vNm c=0→c % 32=20∨c % 32=21:=fun c h=>by
   obtain ⟨h1,h2⟩:=add0 h
   have h1:20≤c % 32:=sub0 h1
   have h2:c % 32≤21:=sub0 h2
   omega
  rw[dg c,dg c']
  rcases r c h1 with e1|e1<;>rcases r c' h2 with e2|e2<;>rw[e1,e2]<;>first
   | omega
   | exact ⟨_,_,rfl,rfl,by simp only[abinq,aoi,abin,aeq,aeq0,he];rfl,by simp only[abinq,aoi,abin,aeq,aeq0,he];rfl⟩
 ·exact fBin_ok op hx hy
theorem one1_ok {t:TypeId}(h:one1 P t=0):szo P t=some 1:=by
 unfold one1 at h
 split at h
 ·rename_i n hn
  obtain ⟨h1,h2⟩:=add0 h
  have h1:=sub0 h1
  have h2:=sub0 h2
  rw[hn,show n=1 by omega]
 ·cases h
theorem vUn_one {c:Nat}(h:vUn c=0):∃ a,(∀ bx,dec c bx=some a)∧onec a=true∧cel a = [a]:=by
 obtain ⟨h1,h2⟩:=add0 h
 have h1:2≤c % 32:=sub0 h1
 have h2:c % 32≤23:=sub0 h2
 have key:∃ a,(∀ bx,decG (c % 32) (c / 32) bx=some a)∧onec a=true∧cel a = [a]:=by
  generalize c / 32=p
  generalize c % 32=t at h1 h2
  have:t=2∨t=3∨t=4∨t=5∨t=6∨t=7∨t=8∨t=9∨t=10∨t=11∨t=12∨t=13∨t=14∨t=15∨t=16∨t=17∨t=18∨t=19∨t=20∨t=21∨t=22∨t=23:=by omega
  rcases this with rfl|rfl|rfl|rfl|rfl|rfl|rfl|rfl|rfl|rfl|rfl|rfl|rfl|rfl|rfl|rfl|rfl|rfl|rfl|rfl|rfl|rfl<;>exact ⟨_,fun bx=>rfl,rfl,rfl⟩
 exact key
theorem fStore_ok (hK:KnownOk P K) {ty:TypeId}(hx:OpdOk K x f g) (hy:OpdOk K y f' g'):FastOk P K nt none (.store ty x y) (fStore P K ty f f'):=by
 intro m hm ih k n t S o1 e1 S1 hi h
 cases hc:Nat.beq (Nat.add (Nat.add (vP (f n)) (one1 P ty)) (vUn (f' n))) 0 with
 | false=>
   have h:(Bool.rec (m ih k n t S) _ (Nat.beq (Nat.add (Nat.add (vP (f n)) (one1 P ty)) (vUn (f' n))) 0):Fin)=.out o1 e1 S1:=h
   rw[hc]at h
   exact hm ih k n t S o1 e1 S1 hi h
 | true=>
   have h:(Bool.rec (m ih k n t S) (Option.rec (m ih k n t S) (fun S'=>k n t S') (ob (S.h.get (m32 (pl (f n)))) fun b=>stB b K.g S (m32 (pl (f n))) (d32 (pl (f n))) (valC (f' n)))) (Nat.beq (Nat.add (Nat.add (vP (f n)) (one1 P ty)) (vUn (f' n))) 0):Fin)=.out o1 e1 S1:=h
   rw[hc]at h
   rw[Nat.beq_eq]at hc
   obtain ⟨h1,h2⟩:=add0 hc
   obtain ⟨h1,h3⟩:=add0 h1
   obtain ⟨a,ha,hone,hcel⟩:=vUn_one h2
   have hva:valC (f' n)=a:=by unfold valC;rw[ha]
   have hp:=p_op hx (t:=t) h1
   have hv:evo K ⟨n,t⟩ y=some a:=by rw[(hy n).2 t,ha]
   cases hb:S.h.get (m32 (pl (f n)))with
   | none=>
     rw[hb]at h
     exact hm ih k n t S o1 e1 S1 hi h
   | some b=>
     rw[hb]at h
     have h:(Option.rec (m ih k n t S) (fun S'=>k n t S') (stB b K.g S (m32 (pl (f n))) (d32 (pl (f n))) (valC (f' n))):Fin)=.out o1 e1 S1:=h
     cases hs:stB b K.g S (m32 (pl (f n))) (d32 (pl (f n))) (valC (f' n))with
     | none=>
       rw[hs]at h
       exact hm ih k n t S o1 e1 S1 hi h
     | some S2=>
       rw[hs]at h
       refine ⟨n,t,S2,h,fun o ho1 ho2=>?_⟩
       have hst:awr P K.g S (evo K ⟨n,t⟩) (.store ty x y)=some (.tp [],S2)∧S2.nx=S.nx:=by
        cases b with
        | map _ _=>cases hs
        | it _ _ _=>cases hs
        | cells t' cs fz ex=>
          have hs:(Bool.rec none (some ⟨S.h.put (some (.cells t' (putR (d32 (pl (f n))) [valC (f' n)] cs) fz ex)) (m32 (pl (f n))),S.nx⟩) (Nat.beq (Nat.add (Nat.sub K.g (m32 (pl (f n)))) (Nat.add (Nat.sub fz (d32 (pl (f n)))) (Nat.sub (Nat.succ (d32 (pl (f n)))) (len cs)))) 0):Option St)=some S2:=hs
          cases hq:Nat.beq (Nat.add (Nat.sub K.g (m32 (pl (f n)))) (Nat.add (Nat.sub fz (d32 (pl (f n)))) (Nat.sub (Nat.succ (d32 (pl (f n)))) (len cs)))) 0 with
          | false=>rw[hq]at hs;cases hs
          | true=>
            rw[hq]at hs
            rw[Nat.beq_eq]at hq
            obtain ⟨q1,q2⟩:=add0 hq
            obtain ⟨q2,q3⟩:=add0 q2
            rw[hva]at hs
            have hs:=Option.some.inj hs
            refine ⟨?_,by rw[← hs]⟩
            have b1:Nat.ble K.g (m32 (pl (f n)))=true:=bl (sub0 q1)
            have b2:Nat.ble fz (d32 (pl (f n)))=true:=bl (sub0 q2)
            have b3:Nat.ble (d32 (pl (f n))+len [a]) (len cs)=true:=bl (sub0 q3)
            have b4:allc [a]=true:=by show (onec a && true)=true;rw[hone];rfl
            have b5:Nat.beq (len [a]) 1=true:=rfl
            simp only[awr,hp,hv,one1_ok h3,hcel,b5,cond_true,asto,hb,b1,b2,b3,b4,Bool.and_self,hs]
       have hnx:=hst.2
       have ha0:aop0 P K noIh S (evo K ⟨n,t⟩) o.op=.ok (.tp []) S2:=by
        rw[ho2]
        have z1:apure P (evo K ⟨n,t⟩) (.store ty x y)=none:=rfl
        have z2:ard P S.lk (evo K ⟨n,t⟩) (.store ty x y)=none:=rfl
        have z3:aalloc P (evo K ⟨n,t⟩) (.store ty x y)=none:=rfl
        have z4:Nat.ble S.nx S2.nx=true:=bl (by rw[hnx];exact Nat.le_refl _)
        simp only[aop0,aquiet,z1,z2,z3,hst.1,z4,cond_true]
       refine opR_upd (opV_aop0 hK noIh_ok ha0) ?_
       rw[ho1];rfl
theorem fExt_ok (hK:KnownOk P K) {d:Tmp}{p:Option AV→T AV→T AV}{i:Nat}(hdst:dst=some d) (hd:d<nt) (hp:∀ x U,p x U=U.put x d) (hx:OpdOk K x f g):FastOk P K nt dst (.extract x i) (fExt d p f g i):=by
 intro m hm ih k n t S o1 e1 S1 hi h
 have h:(Bool.rec (m ih k n t S) (Option.rec (m ih k n t S) (fun a=>k (pset n d (ccap (enc a))) (Bool.rec t (p (some a) t) (Nat.beq (ccap (enc a)) 1)) S) (tupN (g t) i)) (Nat.beq (f n) 1):Fin)=.out o1 e1 S1:=h
 cases hc:Nat.beq (f n) 1 with
 | false=>rw[hc]at h;exact hm ih k n t S o1 e1 S1 hi h
 | true=>
   rw[hc]at h
   rw[Nat.beq_eq]at hc
   cases ha:tupN (g t) i with
   | none=>rw[ha]at h;exact hm ih k n t S o1 e1 S1 hi h
   | some a=>
     rw[ha]at h
     have h:k (pset n d (ccap (enc a))) (Bool.rec t (p (some a) t) (Nat.beq (ccap (enc a)) 1)) S=.out o1 e1 S1:=h
     refine ⟨pset n d (ccap (enc a)),tcap (ccap (enc a)) (some a) t d,S,by rw[← tcap_eq hp];exact h,fun o ho1 ho2=>?_⟩
     have hq:qext (evo K ⟨n,t⟩) x i=some a:=by
      unfold qext
      rw[(hx n).2 t,hc,dec_one];exact ha
     refine opR_upd (v:=a) (opV_aop0 hK noIh_ok (by rw[ho2];exact aop0_pure (qext_ok hq))) ?_
     rw[ho1,hdst]
     refine upd_place hd (ccap_lt _) fun y hy=>?_
     rcases dec_ccap a (some a)with h4|h4
     ·rw[h4,dec_one]at hy;exact (Option.some.inj hy).symm
     ·rw[h4]at hy;exact (Option.some.inj hy).symm
def isNew:Op→Bool
 | .alloc _=>true
 | .box _ _=>true
 | .buildSlice _ _ _=>true
 | .makeSlice _ _ _=>true
 | .makeMap _ _=>true
 | _=>false
theorem fNew_ok (hK:KnownOk P K) {d:Tmp}{p:Option AV→T AV→T AV}{op:Op}(hn:isNew op=true) (hdst:dst=some d) (hd:d<nt) (hp:∀ x U,p x U=U.put x d):FastOk P K nt dst op (fNew P K d p op):=by
 intro m hm ih k n t S o1 e1 S1 hi h
 have h:(Option.rec (.bad [12]) (fun q=>Prod.rec (motive:=fun _=>Fin) (fun b f=>Bool.rec (.bad [13]) (k (pset n d (ccap (enc (f S.nx)))) (Bool.rec t (p (some (f S.nx)) t) (Nat.beq (ccap (enc (f S.nx))) 1)) ⟨S.h.put (some b) S.nx,Nat.succ S.nx⟩) (Nat.ble K.g S.nx)) q) (aalloc P (evo K ⟨n,t⟩) op):Fin)=.out o1 e1 S1:=h
 cases ha:aalloc P (evo K ⟨n,t⟩) op with
 | none=>rw[ha]at h;cases h
 | some q=>
   obtain ⟨b,fv⟩:=q
   rw[ha]at h
   have h:(Bool.rec (.bad [13]) (k (pset n d (ccap (enc (fv S.nx)))) (Bool.rec t (p (some (fv S.nx)) t) (Nat.beq (ccap (enc (fv S.nx))) 1)) ⟨S.h.put (some b) S.nx,Nat.succ S.nx⟩) (Nat.ble K.g S.nx):Fin)=.out o1 e1 S1:=h
   cases hg:Nat.ble K.g S.nx with
   | false=>rw[hg]at h;cases h
   | true=>
     rw[hg]at h
     refine ⟨pset n d (ccap (enc (fv S.nx))),tcap (ccap (enc (fv S.nx))) (some (fv S.nx)) t d,⟨S.h.put (some b) S.nx,Nat.succ S.nx⟩,by rw[← tcap_eq hp];exact h,fun o ho1 ho2=>?_⟩
     have z1:apure P (evo K ⟨n,t⟩) op=none:=by cases op<;>first|rfl|cases hn
     have z2:ard P S.lk (evo K ⟨n,t⟩) op=none:=by cases op<;>first|rfl|cases hn
     have ha0:aop0 P K noIh S (evo K ⟨n,t⟩) o.op=.ok (fv S.nx) ⟨S.h.put (some b) S.nx,Nat.succ S.nx⟩:=by
      rw[ho2]
      simp only[aop0,aquiet,z1,z2,ha,hg,cond_true]
     refine opR_upd (opV_aop0 hK noIh_ok ha0) ?_
     rw[ho1,hdst]
     refine upd_place hd (ccap_lt _) fun y hy=>?_
     rcases dec_ccap (fv S.nx) (some (fv S.nx))with h4|h4
     ·rw[h4,dec_one]at hy;exact (Option.some.inj hy).symm
     ·rw[h4]at hy;exact (Option.some.inj hy).symm
theorem fast_ok (hK:KnownOk P K) (ty:TypeId) (op:Op):FastOk P K nt dst op (fast P K nt ty dst op):=by
 have ox:∀ x,∃ f g,ocB K x=.mk f∧bxB K nt x=.mk g∧OpdOk K x f g:=fun x=>oc_ok (K:=K) x nt
 cases op with
 | move x=>
   obtain ⟨f,g,hf,hg,hx⟩:=ox x
   show FastOk P K nt dst _ (unB (ocB K x) fun f=>unB (bxB K nt x) fun g=>fMove P nt ty dst f g)
   rw[hf,hg];exact fMove_ok (.inl rfl) hx
 | assign x=>
   obtain ⟨f,g,hf,hg,hx⟩:=ox x
   show FastOk P K nt dst _ (unB (ocB K x) fun f=>unB (bxB K nt x) fun g=>fMove P nt ty dst f g)
   rw[hf,hg];exact fMove_ok (.inr rfl) hx
 | pick c a b=>
   obtain ⟨h,g0,hh,_,hz⟩:=ox c
   obtain ⟨f,g1,hf,_,hx⟩:=ox a
   obtain ⟨f',g2,hf',_,hy⟩:=ox b
   show FastOk P K nt dst _ (unB (ocB K c) fun h=>unB (ocB K a) fun f=>unB (ocB K b) fun g=>fPick h f g)
   rw[hh,hf,hf'];exact fPick_ok hz hx hy
 | nilCheck x=>
   obtain ⟨f,g,hf,hg,hx⟩:=ox x
   show FastOk P K nt dst _ (unB (ocB K x) fun f=>fNil f)
   rw[hf];exact fNil_ok hx
 | binOp op t x y u=>
   obtain ⟨f,g,hf,hg,hx⟩:=ox x
   obtain ⟨f',g',hf',hg',hy⟩:=ox y
   have main:FastOk P K nt dst (.binOp op t x y u) (unB (ocB K x) fun f=>unB (ocB K y) fun g=>fBin op f g):=by
    rw[hf,hf'];exact fBin_ok op hx hy
   cases op with
   | eql=>exact fEq_ok (.inl ⟨rfl,rfl⟩)
   | neq=>exact fEq_ok (.inr ⟨rfl,rfl⟩)
   | _=>exact main
 | unOp op t x=>
   obtain ⟨f,g,hf,hg,hx⟩:=ox x
   cases op with
   | not=>
     show FastOk P K nt dst _ (unB (ocB K x) fun f=>fNot f)
     rw[hf];exact fNot_ok hx
   | _=>trivial
 | convert s d x=>
   obtain ⟨f,g,hf,hg,hx⟩:=ox x
   show FastOk P K nt dst _ (unB (ocB K x) fun f=>fConv P s d f)
   rw[hf];exact fConv_ok hx
 | fieldAddr s x i=>
   obtain ⟨f,g,hf,hg,hx⟩:=ox x
   show FastOk P K nt dst _ (unB (ocB K x) fun f=>fFda P s f i)
   rw[hf];exact fFda_ok hx
 | indexAddr t x i=>
   obtain ⟨f,g,hf,hg,hx⟩:=ox x
   obtain ⟨f',g',hf',hg',hy⟩:=ox i
   show FastOk P K nt dst _ (unB (ocB K x) fun f=>unB (ocB K i) fun g=>fIxa P t f g)
   rw[hf,hf'];exact fIxa_ok hx hy
 | index t x i=>
   obtain ⟨f,g,hf,hg,hx⟩:=ox x
   obtain ⟨f',g',hf',hg',hy⟩:=ox i
   show FastOk P K nt dst _ (unB (ocB K x) fun f=>unB (bxB K nt x) fun g=>unB (ocB K i) fun h=>fIdxS P t f g h)
   rw[hf,hg,hf'];exact fIdxS_ok hx hy
 | load t x=>
   obtain ⟨f,g,hf,hg,hx⟩:=ox x
   show FastOk P K nt dst _ (unB (ocB K x) fun f=>fLoad P t f)
   rw[hf];exact fLoad_ok hx
 | store t x v=>
   obtain ⟨f,g,hf,hg,hx⟩:=ox x
   obtain ⟨f',g',hf',hg',hy⟩:=ox v
   cases dst with
   | some d=>trivial
   | none=>
     show FastOk P K nt none _ (unB (ocB K x) fun f=>unB (ocB K v) fun f'=>fStore P K t f f')
     rw[hf,hf'];exact fStore_ok hK hx hy
 | extract x i=>
   obtain ⟨f,g,hf,hg,hx⟩:=ox x
   show FastOk P K nt dst _ (unB (ocB K x) fun f=>unB (bxB K nt x) fun g=>inD nt dst fun d p=>fExt d p f g i)
   rw[hf,hg];exact inD_ok fun d p hd hn hp=>fExt_ok hK hd hn hp hx
 | alloc t=>exact inD_ok fun d p hd hn hp=>fNew_ok hK rfl hd hn hp
 | box t x=>exact inD_ok fun d p hd hn hp=>fNew_ok hK rfl hd hn hp
 | buildSlice t n l=>exact inD_ok fun d p hd hn hp=>fNew_ok hK rfl hd hn hp
 | makeSlice t x y=>exact inD_ok fun d p hd hn hp=>fNew_ok hK rfl hd hn hp
 | makeMap t x=>exact inD_ok fun d p hd hn hp=>fNew_ok hK rfl hd hn hp
 | call c=>
   unfold fast
   simp only
   split
   ·rename_i hcal
    split
    ·rename_i x t hargs htys
     obtain ⟨f,g,hf,hg,hx⟩:=ox x
     rw[hf]
     show FastOk P K nt dst _ (match und P t with
      | some .string=>unB (bxB K nt x) fun g=>fLenS P t f g
      | _=>fLen P t f)
     split
     ·rw[hg];exact fLenS_ok hcal hargs htys hx
     ·exact fLen_ok hcal hargs htys hx
    ·trivial
   ·trivial
 | _=>trivial
theorem quick_ok (hK:KnownOk P K) {d:Tmp}{op:Op}{v r:Nat→T AV→St→Nat}{m:H→G→G}(hdst:dst=some d) (hd:d<nt) (hf:FastOk P K nt dst op (.yes v r)) (hm:Cop1Ok P K nt dst op m):Cop1Ok P K nt dst op (quick d v r m):=by
 intro ih k n t S o1 e1 S1 hi h
 have h:(Bool.rec (m ih k n t S) (k (pset n d (r n t S)) t S) (Nat.beq (v n t S) 0):Fin)=.out o1 e1 S1:=h
 cases hc:Nat.beq (v n t S) 0 with
 | false=>rw[hc]at h;exact hm ih k n t S o1 e1 S1 hi h
 | true=>
   rw[hc]at h
   rw[Nat.beq_eq]at hc
   obtain ⟨h1,a,h2,h3⟩:=hf n t S hc
   refine ⟨_,_,S,h,fun o ho1 ho2=>?_⟩
   refine opR_upd (opV_aop0 hK noIh_ok (by rw[ho2];exact h3 noIh)) ?_
   rw[ho1,hdst]
   exact upd_code hd h1 h2
theorem cop1_ok (hK:KnownOk P K) (nt:Nat) (ty:TypeId) (dst:Option Tmp) (op:Op):∃ q,cop1 P K nt ty dst op=.mk q∧Cop1Ok P K nt dst op q:=by
 have hf:=fast_ok (P:=P) (nt:=nt) (dst:=dst) hK ty op
 have hm:=mid_ok hK nt dst op
 unfold cop1
 split
 ·rename_i v r he
  rw[he]at hf
  cases dst with
  | none=>exact ⟨_,rfl,hm⟩
  | some d=>
    simp only
    rw[cnd_eq]
    split
    ·rename_i hd
     rw[blt_iff]at hd
     exact ⟨_,rfl,quick_ok hK rfl hd hf hm⟩
    ·exact ⟨_,rfl,hm⟩
 ·rename_i q he
  rw[he]at hf
  exact ⟨_,rfl,hf _ hm⟩
 ·split
  ·rename_i c hno
   split
   ·rename_i w hw
    split
    ·rename_i fn
     refine fcall_ok hK nt dst ⟨c.argTypes,?_⟩ (gcall_ok hK nt dst _)
     obtain ⟨ce,args,tys⟩:=c
     simp only at hw;subst hw
     simp
    ·exact ⟨_,rfl,gcall_ok hK nt dst _⟩
   ·exact ⟨_,rfl,hm⟩
  ·exact ⟨_,rfl,hm⟩
theorem awant_guard {all:List Oper}{env:Env}{o:Oper}{j:Nat}{w:Bool}{g:Tmp}{b:Bool}(ho:o.guard=some (j,w)) (hg:gtmp all j=some g) (he:eget env g=some (.b b)):awant all env o=some (b == w):=by
 unfold awant
 rw[ho]
 show awant1 all env j w=_
 unfold awant1
 unfold gtmp at hg
 split at hg
 ·rename_i oj hj
  simp only[hj,hg,he]
 ·cases hg
theorem skip_ok {all:List Oper}{o:Oper}{n:Nat}{t:T AV}{S:St}{d:Tmp}(hdst:o.dst=some d) (hd:d<nt) (hw:awant all ⟨n,t⟩ o=some false):StepR P K nt all o ⟨n,t⟩ S ⟨pset n d 1,t.put (some (.tp [])) d⟩ S:=by
 refine .inr ⟨hw,rfl,fun m a hE hn=>?_⟩
 rw[hdst]
 exact env_place (c:=1) (x:=some (.tp [])) (u:=undef) hE hn hd (by decide) fun y hy=>by
  rw[dec_one]at hy
  obtain rfl:=Option.some.inj hy
  exact undef_ok m
theorem skp_ok {all:List Oper}{o:Oper}{ih:H}{k:G}{n:Nat}{t:T AV}{S:St}{o1:Out}{e1:Env}{S1:St}(hw:awant all ⟨n,t⟩ o=some false) (h:skp nt o.dst ih k n t S=.out o1 e1 S1):∃ n' t' S',k n' t' S'=.out o1 e1 S1∧StepR P K nt all o ⟨n,t⟩ S ⟨n',t'⟩ S':=by
 cases hd:o.dst with
 | some d=>
   rw[hd]at h
   have h:(cnd (Nat.blt d nt) (unB (pP (dep nt) d) fun p=>fun _ k n t S=>k (pset n d 1) (p (some (.tp [])) t) S) (fun _ _ _ _ _=>.bad [14]):H→G→G) ih k n t S=.out o1 e1 S1:=h
   rw[cnd_eq]at h
   split at h
   ·rename_i hb
    rw[blt_iff]at hb
    obtain ⟨p,hp,hp'⟩:=pP_ok (dep nt) d
    rw[hp]at h
    have h:k (pset n d 1) (p (some (.tp [])) t) S=.out o1 e1 S1:=h
    rw[hp']at h
    exact ⟨_,_,S,h,skip_ok hd hb hw⟩
   ·cases h
 | none=>
   rw[hd]at h
   refine ⟨n,t,S,h,.inr ⟨hw,rfl,fun m a hE hn=>?_⟩⟩
   rw[hd];exact ⟨hE,hn⟩
theorem gd_ok {all:List Oper}{o:Oper}{q:H→G→G}(hq:Cop1Ok P K nt o.dst o.op q):CopOk P K nt all o (gd P K nt all o q):=by
 intro ih k n t S o1 e1 S1 hi h
 unfold gd at h
 cases hw:awant all ⟨n,t⟩ o with
 | none=>rw[hw]at h;cases h
 | some b=>
   rw[hw]at h
   cases b with
   | true=>
     obtain ⟨n',t',S',h1,h2⟩:=hq ih k n t S o1 e1 S1 hi h
     exact ⟨n',t',S',h1,.inl ⟨hw,h2 o rfl rfl⟩⟩
   | false=>
     have h:aft (aput nt ⟨n,t⟩ o.dst (.tp [])) k S=.out o1 e1 S1:=h
     obtain ⟨n',t',h1,h2⟩:=aft_out h
     exact ⟨n',t',S,h2,.inr ⟨hw,rfl,fun m a hE hn=>upd_ok (aput_upd h1) hE hn (undef_ok m)⟩⟩
theorem slot34 {n g:Nat}{t:T AV}(h:slot n g=34):eget ⟨n,t⟩ g=some (.b true):=by unfold eget;simp only;rw[h];rfl
theorem slot2 {n g:Nat}{t:T AV}(h:slot n g=2):eget ⟨n,t⟩ g=some (.b false):=by unfold eget;simp only;rw[h];rfl
theorem cop_ok (hK:KnownOk P K) (nt:Nat) (all:List Oper) (o:Oper):∃ q,cop P K nt all o=.mk q∧CopOk P K nt all o q:=by
 obtain ⟨q,hq,hq'⟩:=cop1_ok hK nt o.type o.dst o.op
 unfold cop
 split
 ·rename_i hg
  refine ⟨q,hq,fun ih k n t S o1 e1 S1 hi h=>?_⟩
  obtain ⟨n',t',S',h1,h2⟩:=hq' ih k n t S o1 e1 S1 hi h
  exact ⟨n',t',S',h1,.inl ⟨by unfold awant;rw[hg],h2 o rfl rfl⟩⟩
 ·rename_i j w hg
  rw[hq]
  show ∃ q',(match gtmp all j with
   | some g=>Box.mk (gdq g (cnd w 34 2) (cnd w 2 34) q (skp nt o.dst) (gd P K nt all o q))
   | none=>.mk (gd P K nt all o q))=Box.mk q'∧CopOk P K nt all o q'
  split
  ·rename_i g hgt
   refine ⟨_,rfl,fun ih k n t S o1 e1 S1 hi h=>?_⟩
   have h:(Bool.rec (Bool.rec (gd P K nt all o q ih k n t S) (skp nt o.dst ih k n t S) (Nat.beq (slot n g) (cnd w 2 34))) (q ih k n t S) (Nat.beq (slot n g) (cnd w 34 2)):Fin)=.out o1 e1 S1:=h
   cases h1:Nat.beq (slot n g) (cnd w 34 2)with
   | true=>
     rw[h1]at h
     rw[Nat.beq_eq]at h1
     have hw:awant all ⟨n,t⟩ o=some true:=by
      cases w with
      | true=>exact awant_guard hg hgt (slot34 h1)
      | false=>exact awant_guard hg hgt (slot2 h1)
     obtain ⟨n',t',S',h2,h3⟩:=hq' ih k n t S o1 e1 S1 hi h
     exact ⟨n',t',S',h2,.inl ⟨hw,h3 o rfl rfl⟩⟩
   | false=>
     rw[h1]at h
     cases h2:Nat.beq (slot n g) (cnd w 2 34)with
     | true=>
       rw[h2]at h
       rw[Nat.beq_eq]at h2
       have hw:awant all ⟨n,t⟩ o=some false:=by
        cases w with
        | true=>exact awant_guard hg hgt (slot2 h2)
        | false=>exact awant_guard hg hgt (slot34 h2)
       exact skp_ok hw h
     | false=>
       rw[h2]at h
       exact gd_ok hq' ih k n t S o1 e1 S1 hi h
  ·exact ⟨_,rfl,gd_ok hq'⟩
end
end Am
end
section
namespace Am
open Go
noncomputable section
variable {P:Program}{K:Known}
theorem Step.more {g:Nat}{m m':Map}{lk lk2 lk':Lk}{nx nx':Nat}{w w':World}(h:Step g m lk nx w m' lk' nx' w') (hs:∀ id b,lk id=some b→lk2 id=some b):Step g m lk2 nx w m' lk' nx' w' where
 ext:=h.ext
 dom:=h.dom
 le:=h.le
 rel:=h.rel
 os:=h.os
 tape:=h.tape
 output:=h.output
 size:=h.size
 fr:=fun k hk hn=>h.fr k hk fun id blk L h1 h2 h3=>hn id blk L h1 (hs id blk h2) h3
 img:=fun id blk L h1 h2 h3=>by
  rcases h.img id blk L h1 h2 h3 with h4|⟨id0,blk0,L0,h4,h5,h6,h7⟩
  ·exact .inl h4
  ·exact .inr ⟨id0,blk0,L0,h4,hs _ _ h5,h6,h7⟩
 glob:=fun id b hid hb=>hs _ _ (h.glob id b hid hb)
 keep:=fun id b hb=>by
  rcases h.keep id b hb with ⟨b0,h1⟩|h1
  ·exact .inl ⟨b0,hs _ _ h1⟩
  ·exact .inr h1
theorem R.less {lk lk2:Lk}{m:Map}{w:World}(h:R lk2 m w) (hs:∀ id b,lk id=some b→lk2 id=some b):R lk m w:=
 ⟨fun id b hb=>h.holds id b (hs id b hb),fun id id' b b' L L' h1 h2=>h.inj id id' b b' L L' (hs _ _ h1) (hs _ _ h2)⟩
def Reach (P:Program) (K:Known) (nt:Nat) (c:Code) (env:Env) (S:St) (c':Code) (env':Env) (S':St):Prop:=
 ∀ o eF SF,SoundAt P K c' nt env' S' o eF SF→SoundAt P K c nt env S o eF SF
theorem reach_seq {nt:Nat}{a b c':Code}{env env1 env':Env}{S S1 S':St}(h1:SoundAt P K a nt env S .norm env1 S1) (h2:Reach P K nt b env1 S1 c' env' S'):Reach P K nt (.seq a b) env S c' env' S':=
 fun o eF SF h=>sound_seq h1 (h2 o eF SF h)
theorem Reach.less {nt:Nat}{c c':Code}{env env' env2:Env}{S S' S2:St}(h:Reach P K nt c env S c' env' S') (he:∀ t a,eget env2 t=some a→eget env' t=some a) (hs:∀ id b,S2.lk id=some b→S'.lk id=some b) (hn:S2.nx=S'.nx):Reach P K nt c env S c' env2 S2:=by
 intro o eF SF hS
 refine h o eF SF ?_
 obtain ⟨l1,q1⟩:=hS
 refine ⟨by rw[← hn];exact l1,fun m a w hR hf hG hE ht hd Q hq=>?_⟩
 refine q1 m a w (hR.less hs) (by rw[hn];exact hf) hG (fun t b hb=>hE t b (he t b hb)) ht hd Q fun m' a' w' st=>?_
 have st':=st.more hs
 rw[hn]at st'
 exact hq m' a' w' st'
def dropS:Nat→Code→Code
 | 0,c=>c
 | j+1,.seq _ b=>dropS j b
 | _+1,c=>c
def kBad (l:List Nat):G:=fun _ _ _=>.bad l
def runS (P:Program) (K:Known) (draw:Draw) (ih:H) (nt:Nat) (k:G):Nat→Code→G
 | 0,_=>k
 | j+1,.seq a b=>fun n t S=>unB (cc P K draw nt a) fun q=>q ih (runS P K draw ih nt k j b) (kBad [901,j]) (fun i=>kBad [902,i]) n t S
 | _+1,_=>kBad [903]
theorem runS_ok (hK:KnownOk P K) {draw:Draw}(hD:DrawOk P K draw) {ih:H}(hi:HOk P K ih) {nt:Nat}{k:G}:∀ (j:Nat) (c:Code) n t S o1 e1 S1,runS P K draw ih nt k j c n t S=.out o1 e1 S1 →
 ∃ n' t' S',k n' t' S'=.out o1 e1 S1∧Reach P K nt c ⟨n,t⟩ S (dropS j c) ⟨n',t'⟩ S'
 | 0,c,n,t,S,o1,e1,S1,h=>⟨n,t,S,h,fun o eF SF h=>h⟩
 | j+1,.seq a b,n,t,S,o1,e1,S1,h=>by
   have h:unB (cc P K draw nt a) (fun q=>q ih (runS P K draw ih nt k j b) (kBad [901,j]) (fun i=>kBad [902,i]) n t S)=.out o1 e1 S1:=h
   obtain ⟨q,hq,hq'⟩:=cc_ok hK hD (fun nt all o=>cop_ok hK nt all o) (nt:=nt) a
   rw[hq]at h
   obtain ⟨o,n1,t1,S2,h1,h2⟩:=hq' _ _ _ _ _ _ _ _ _ _ hi h
   cases o with
   | norm=>
     obtain ⟨n',t',S',h3,h4⟩:=runS_ok hK hD hi j b n1 t1 S2 o1 e1 S1 h1
     exact ⟨n',t',S',h3,reach_seq h2 h4⟩
   | exit i=>cases h1
   | ret=>cases h1
 | j+1,.skip,n,t,S,o1,e1,S1,h=>by cases h
 | j+1,.region _ _ _,n,t,S,o1,e1,S1,h=>by cases h
 | j+1,.cond _ _ _,n,t,S,o1,e1,S1,h=>by cases h
 | j+1,.block _ _,n,t,S,o1,e1,S1,h=>by cases h
 | j+1,.loop _,n,t,S,o1,e1,S1,h=>by cases h
 | j+1,.rangeFunc _ _ _ _,n,t,S,o1,e1,S1,h=>by cases h
 | j+1,.exit _,n,t,S,o1,e1,S1,h=>by cases h
 | j+1,.scope _,n,t,S,o1,e1,S1,h=>by cases h
 | j+1,.label _,n,t,S,o1,e1,S1,h=>by cases h
 | j+1,.goto _,n,t,S,o1,e1,S1,h=>by cases h
 | j+1,.ret,n,t,S,o1,e1,S1,h=>by cases h
 | j+1,.refuse _,n,t,S,o1,e1,S1,h=>by cases h
def litE (l:List (Nat × AV)):Env:=l.foldl (fun e p=>eput e p.1 p.2) enew
def litH (l:List (Nat × Blk)):T Blk:=l.foldl (fun h p=>h.put (some p.2) p.1) (full Blk 7)
def litS (l:List (Nat × Blk)) (nx:Nat):St:=⟨litH l,nx⟩
def eqe:AV × AV × Nat→AV × AV × Nat→Bool:=fun x y=>(eqb x.1 y.1 && eqb x.2.1 y.2.1) && Nat.beq x.2.2 y.2.2
def eqes:List (AV × AV × Nat)→List (AV × AV × Nat)→Bool
 | [],[]=>true
 | x :: l,y :: k=>eqe x y && eqes l k
 | _,_=>false
def eqB:Blk→Blk→Bool
 | .cells t cs fz ex,.cells t' cs' fz' ex'=>(Nat.beq t t' && eqbs cs cs') && (Nat.beq fz fz' && (ex == ex'))
 | .map es ck,.map es' ck'=>eqes es es' && Nat.beq ck ck'
 | .it n x p,.it n' x' p'=>(Nat.beq n n' && Nat.beq x x') && Nat.beq p p'
 | _,_=>false
theorem eqe_ok {x y:AV × AV × Nat}(h:eqe x y=true):x=y:=by
 obtain ⟨a,b,c⟩:=x
 obtain ⟨a',b',c'⟩:=y
 simp only[eqe,Bool.and_eq_true,Nat.beq_eq]at h
 rw[eqb_ok _ h.1.1,eqb_ok _ h.1.2,h.2]
theorem eqes_ok:∀ {l k:List (AV × AV × Nat)},eqes l k=true→l=k
 | [],[],_=>rfl
 | x :: l,y :: k,h=>by
   simp only[eqes,Bool.and_eq_true]at h
   rw[eqe_ok h.1,eqes_ok h.2]
 | [],_ :: _,h=>by cases h
 | _ :: _,[],h=>by cases h
theorem eqB_ok {x y:Blk}(h:eqB x y=true):x=y:=by
 cases x<;>cases y<;>simp only[eqB,Bool.and_eq_true,Nat.beq_eq,beq_iff_eq,Bool.false_eq_true]at h
 ·rw[h.1.1,eqbs_ok _ h.1.2,h.2.1,h.2.2]
 ·rw[eqes_ok h.1,h.2]
 ·rw[h.1.1,h.1.2,h.2]
def chkE (e:Env):List (Nat × AV)→Bool
 | []=>true
 | p :: l=>(match eget e p.1 with
   | some a=>eqb p.2 a
   | none=>false) && chkE e l
def chkH (S:St):List (Nat × Blk)→Bool
 | []=>true
 | p :: l=>(match S.h.get p.1 with
   | some b=>eqB p.2 b
   | none=>false) && chkH S l
def chk (le:List (Nat × AV)) (lh:List (Nat × Blk)) (nx:Nat):G:=fun n t S=>cnd ((chkE ⟨n,t⟩ le && chkH S lh) && Nat.beq nx S.nx) (.out .norm enew ⟨.vl none,0⟩) (.bad [904])
theorem chkE_ok {e:Env}:∀ {l:List (Nat × AV)}(e0:Env),chkE e l=true→∀ t a,eget (l.foldl (fun e p=>eput e p.1 p.2) e0) t=some a→eget e0 t=some a∨eget e t=some a
 | [],e0,_,t,a,h=>.inl h
 | p :: l,e0,hc,t,a,h=>by
   simp only[chkE,Bool.and_eq_true]at hc
   rcases chkE_ok (eput e0 p.1 p.2) hc.2 t a h with h1|h1
   ·rcases eget_eput h1 with ⟨rfl,rfl⟩|⟨_,h2⟩
    ·have h3:=hc.1
     split at h3
     ·rename_i b hb
      exact .inr (by rw[hb,eqb_ok _ h3])
     ·cases h3
    ·exact .inl h2
   ·exact .inr h1
theorem chkH_ok {S:St}:∀ {l:List (Nat × Blk)}(h0:T Blk),chkH S l=true→∀ id b,(l.foldl (fun h p=>h.put (some p.2) p.1) h0).get id=some b→h0.get id=some b∨S.h.get id=some b
 | [],h0,_,id,b,h=>.inl h
 | p :: l,h0,hc,id,b,h=>by
   simp only[chkH,Bool.and_eq_true]at hc
   rcases chkH_ok (h0.put (some p.2) p.1) hc.2 id b h with h1|h1
   ·rcases T.get_put _ _ _ _ h1 with ⟨rfl,rfl⟩|⟨_,h2⟩
    ·have h3:=hc.1
     split at h3
     ·rename_i b2 hb
      exact .inr (by rw[hb,eqB_ok h3])
     ·cases h3
    ·exact .inl h2
   ·exact .inr h1
theorem full_get {α:Type}:∀ (k n:Nat),(full α k).get n=none
 | 0,n=>by show (T.vl none).get n=none;rw[T.get_vl];split<;>rfl
 | k+1,n=>by
   show (T.nd (full α k) (full α k) (full α k) (full α k)).get n=none
   rw[T.get_nd]
   repeat' split
   all_goals exact full_get k _
theorem chk_out {le:List (Nat × AV)}{lh:List (Nat × Blk)}{nx n:Nat}{t:T AV}{S:St}{o1:Out}{e1:Env}{S1:St}(h:chk le lh nx n t S=.out o1 e1 S1) :
 (∀ d a,eget (litE le) d=some a→eget ⟨n,t⟩ d=some a)∧(∀ id b,(litS lh nx).lk id=some b→S.lk id=some b)∧nx=S.nx:=by
 unfold chk at h
 rw[cnd_eq]at h
 split at h
 ·rename_i hc
  rw[Bool.and_eq_true,Bool.and_eq_true,Nat.beq_eq]at hc
  refine ⟨fun d a hd=>?_,fun id b hb=>?_,hc.2⟩
  ·rcases chkE_ok enew hc.1.1 d a hd with h1|h1
   ·rw[eget_new]at h1;cases h1
   ·exact h1
  ·rcases chkH_ok (full Blk 7) hc.1.2 id b hb with h1|h1
   ·rw[full_get]at h1;cases h1
   ·exact h1
 ·cases h
def isOut (F:Fin):Bool:=Fin.rec (motive:=fun _=>Bool) (fun _ _ _=>true) (fun _=>false) F
theorem isOut_ok {F:Fin}(h:isOut F=true):∃ o e S,F=.out o e S:=by
 cases F with
 | out o e S=>exact ⟨o,e,S,rfl⟩
 | bad l=>cases h
def runE (g:G) (e:Env) (S:St):Fin:=Env.rec (motive:=fun _=>Fin) (fun n t=>g n t S) e
theorem part_ok (hK:KnownOk P K) {fuel nt j:Nat}{c:Code}{env:Env}{S:St}{le:List (Nat × AV)}{lh:List (Nat × Blk)}{nx:Nat}
 (h:isOut (runE (runS P K (adraw P K) (hN P K (adraw P K) fuel) nt (chk le lh nx) j c) env S)=true):Reach P K nt c env S (dropS j c) (litE le) (litS lh nx):=by
 obtain ⟨o,e,S1,h⟩:=isOut_ok h
 obtain ⟨n,t⟩:=env
 obtain ⟨n',t',S',h1,h2⟩:=runS_ok hK (adraw_ok hK) (hN_ok hK (adraw_ok hK) (fun nt all o=>cop_ok hK nt all o) fuel) j c n t S o e S1 h
 obtain ⟨h3,h4,h5⟩:=chk_out h1
 exact h2.less h3 h4 h5
def chkR (r:Nat) (v:AV):G:=fun n t S=>cnd (chkE ⟨n,t⟩ [(r,v)]) (.out .norm ⟨n,t⟩ S) (.bad [905])
theorem last_ok (hK:KnownOk P K) {fuel nt:Nat}{c:Code}{env:Env}{S:St}{r:Nat}{v:AV}
 (h:isOut (runE (fun n t S=>hN P K (adraw P K) (Nat.succ fuel) c nt (chkR r v) (chkR r v) n t S) env S)=true):∃ o env' S',(o=.norm∨o=.ret)∧SoundAt P K c nt env S o env' S'∧eget env' r=some v:=by
 obtain ⟨o,e,S1,h⟩:=isOut_ok h
 obtain ⟨n,t⟩:=env
 obtain ⟨oo,n',t',S',h1,h2⟩:=hN_ok hK (adraw_ok hK) (fun nt all o=>cop_ok hK nt all o) (Nat.succ fuel) _ _ _ _ _ _ _ _ _ _ h
 have h3:chkR r v n' t' S'=.out o e S1:=by rcases h1 with ⟨_,h1⟩|⟨_,h1⟩<;>exact h1
 refine ⟨oo,⟨n',t'⟩,S',by rcases h1 with ⟨h1,_⟩|⟨h1,_⟩;exact .inl h1;exact .inr h1,h2,?_⟩
 unfold chkR at h3
 rw[cnd_eq]at h3
 split at h3
 ·rename_i hc
  simp only[chkE,Bool.and_true]at hc
  split at hc
  ·rename_i a ha
   rw[ha,eqb_ok _ hc]
  ·cases hc
 ·cases h3
end
end Am
end
section
namespace Go.Proofs.YtbdfhnelmojbpaaGreatDoor
open Go Am
noncomputable section
def hasBody (f:FuncId):Bool:=match fnc Tryz.prog f with
 | some fn=>fn.body.isSome
 | none=>false
def extK (f:FuncId):Nat:=bif Nat.beq f 278 then 1 else bif Nat.beq f 232 then 2 else bif Nat.beq f 275 then 3 else 0
def K7:Known:={ g:=16,enter:=hasBody,ext:=extK,mz:=115,con:=fun _ _ _=>none }
def pow10L:List AV:=[1,10,100,1000,10000,100000,1000000,10000000,100000000,1000000000,10000000000,100000000000,1000000000000,10000000000000,100000000000000,1000000000000000,10000000000000000,100000000000000000,1000000000000000000,10000000000000000000].map (fun (x:Nat)=>AV.i .u64 (.ofNat x))
def S7:St:=⟨(full Blk 7).put (some (.cells 376 pow10L 20 true)) 3,16⟩
def h7:H:=hN Tryz.prog K7 (adraw Tryz.prog K7) 200
def body7 (f:FuncId):Code:=match fnc Tryz.prog f with
 | some fn=>match fn.body with
   | some c=>c
   | none=>.skip
 | none=>.skip
def nt7 (f:FuncId):Nat:=match fnc Tryz.prog f with
 | some fn=>fn.ntmps
 | none=>0
end
end Go.Proofs.YtbdfhnelmojbpaaGreatDoor
end
section
namespace Go.Proofs.YtbdfhnelmojbpaaGreatDoor
open Go Am
noncomputable section
theorem names7:Tryz.prog.funcs.toList.all (fun fn=>!(fn.name == "runtime.NumGoroutine"))=true:=by kernel_rfl
theorem mixed7:Tryz.prog.follows .mixedOrders=true:=by kernel_rfl
theorem no_ext {f:FuncId}(h:extK f=1):f=278:=by
 unfold extK at h
 cases h1:Nat.beq f 278 with
 | true=>exact Nat.eq_of_beq_eq_true h1
 | false=>
   rw[h1,cond_false]at h
   cases h2:Nat.beq f 232 with
   | true=>rw[h2,cond_true]at h;cases h
   | false=>
     rw[h2,cond_false]at h
     cases h3:Nat.beq f 275 with
     | true=>rw[h3,cond_true]at h;cases h
     | false=>rw[h3,cond_false]at h;cases h
theorem no_ext2 {f:FuncId}(h:extK f=2):f=232:=by
 unfold extK at h
 cases h1:Nat.beq f 278 with
 | true=>rw[h1,cond_true]at h;cases h
 | false=>
   rw[h1,cond_false]at h
   cases h2:Nat.beq f 232 with
   | true=>exact Nat.eq_of_beq_eq_true h2
   | false=>
     rw[h2,cond_false]at h
     cases h3:Nat.beq f 275 with
     | true=>rw[h3,cond_true]at h;cases h
     | false=>rw[h3,cond_false]at h;cases h
theorem no_ext3 {f:FuncId}(h:extK f=3):f=275:=by
 unfold extK at h
 cases h1:Nat.beq f 278 with
 | true=>rw[h1,cond_true]at h;cases h
 | false=>
   rw[h1,cond_false]at h
   cases h2:Nat.beq f 232 with
   | true=>rw[h2,cond_true]at h;cases h
   | false=>
     rw[h2,cond_false]at h
     cases h3:Nat.beq f 275 with
     | true=>exact Nat.eq_of_beq_eq_true h3
     | false=>rw[h3,cond_false]at h;cases h
theorem ext_run (e:Array Value→Sem Value) (args:Array Value) (w:World):((e args).run Tryz.prog w).andThen (fun v w'=>.ok (.value v) w')=((do pure (.value (← e args)):Sem Next)).run Tryz.prog w:=by
 rw[Sem.run_bind];rfl
theorem known7:KnownOk Tryz.prog K7 where
 enter:=fun f h args w=>by
  have h:hasBody f=true:=h
  unfold hasBody at h
  split at h
  ·rename_i fn hfn
   have hn:=names7
   rw[List.all_eq_true]at hn
   have hm:fn∈Tryz.prog.funcs.toList:=by
    rw[fnc,nth_eq]at hfn
    exact List.mem_of_getElem? hfn
   have hne:=hn fn hm
   rw[fnc_eq]at hfn
   have h1:fn.name≠"runtime.NumGoroutine":=by simpa using hne
   obtain ⟨c,hc⟩:=Option.isSome_iff_exists.1 h
   simp[callFunc,hfn,h1,hc]
  ·cases h
 ext1:=fun f _ h args w=>by
  obtain rfl:=no_ext h
  rw[run_callFunc_extern Tryz.func278 (by kernel_rfl) (by kernel_rfl) (by kernel_rfl) (e:=Extern.BytealgIndexByte.indexByte) (by kernel_rfl)]
  exact ext_run _ _ _
 ext2:=fun f _ h args w=>by
  obtain rfl:=no_ext2 h
  rw[run_callFunc_extern Tryz.func232 (by kernel_rfl) (by kernel_rfl) (by kernel_rfl) (e:=Extern.AbiNoEscape.same) (by kernel_rfl)]
  exact ext_run _ _ _
 ext3:=fun f _ h=>by
  obtain rfl:=no_ext3 h
  refine ⟨Tryz.f275.params,Tryz.f275.resultTypes,by kernel_rfl,fun args w=>?_⟩
  rw[run_callFunc_extern Tryz.func275 (by kernel_rfl) (by kernel_rfl) (by kernel_rfl) (e:=Extern.BytealgMakeNoZero.makeNoZero Tryz.f275.params Tryz.f275.resultTypes) (by kernel_rfl)]
  exact ext_run _ _ _
 con:=fun f _ args S v h=>by cases h
 mixed:=mixed7
def m7:Map:=fun id=>if id<16 then some ⟨id,0,if id=3 then 20 else 0⟩else none
theorem gl7:Gl K7 m7:=fun g hg=>by
 have hg:g<16:=hg
 exact ⟨_,by unfold m7;rw[if_pos hg]⟩
theorem fre7 (n:Nat):Fre m7 16 n:=fun id h1 h2=>by unfold m7;rw[if_neg (by omega)]
theorem pow7 (m:Map):cvs m pow10L=some (Lib.pow10Tab.map fun z=>Value.int .u64 z):=by
 have:Lib.pow10Tab = [1,10,100,1000,10000,100000,1000000,10000000,100000000,1000000000,10000000000,100000000000,1000000000000,10000000000000,100000000000000,1000000000000000,10000000000000000,100000000000000000,1000000000000000000,10000000000000000000]:=by decide
 rw[this];rfl
def T7 (w:World):Prop:=∃ fr,w.heap[3]?=some (.cells (Lib.pow10Tab.map fun z=>Value.int .u64 z).toArray 376 fr)
theorem T7.keep {w w':World}(h:T7 w) (hb:Go.RowKit.Below w.heap.size w w'):T7 w':=by
 obtain ⟨fr,h⟩:=h
 exact ⟨fr,(hb.block _ (Array.getElem?_eq_some_iff.1 h).1).trans h⟩
theorem r7 {w:World}(h:T7 w):R S7.lk m7 w:=by
 obtain ⟨fr,hw⟩:=h
 have hlk:∀ id b,S7.lk id=some b→id=3∧b=.cells 376 pow10L 20 true:=fun id b hb=>by
  rcases T.get_put (Blk.cells 376 pow10L 20 true) (full Blk 7) 3 id hb with h1|⟨_,h1⟩
  ·exact h1
  ·rw[full_get]at h1;cases h1
 refine ⟨fun id b hb=>?_,fun id id' b b' L L' h1 h2 _ _ _=>by rw[(hlk _ _ h1).1,(hlk _ _ h2).1]⟩
 obtain ⟨rfl,rfl⟩:=hlk id b hb
 refine ⟨⟨3,0,20⟩,(Lib.pow10Tab.map fun z=>Value.int .u64 z).toArray,fr,_,rfl,hw,by rw[List.size_toArray,List.length_map,Lib.pow10Tab_length];exact Nat.le_refl 20,by decide,pow7 _,fun i v hv=>by simpa using hv,fun i h1 h2=>?_,fun _=>⟨rfl,by rw[List.size_toArray,List.length_map,Lib.pow10Tab_length];rfl⟩⟩
 exact absurd h2 (by show ¬ i<20;omega)
end
end Go.Proofs.YtbdfhnelmojbpaaGreatDoor
end
section
namespace Am
open Go Go.RowKit
noncomputable section
variable {P:Program}{K:Known}
theorem dropS_add:∀ (j i:Nat) (c:Code),dropS i (dropS j c)=dropS (j+i) c
 | 0,i,c=>by rw[Nat.zero_add];rfl
 | j+1,i,.seq _ b=>by
   rw[Nat.succ_add]
   exact dropS_add j i b
 | j+1,i,.skip=>by rw[Nat.succ_add];cases i<;>rfl
 | j+1,i,.region _ _ _=>by rw[Nat.succ_add];cases i<;>rfl
 | j+1,i,.cond _ _ _=>by rw[Nat.succ_add];cases i<;>rfl
 | j+1,i,.block _ _=>by rw[Nat.succ_add];cases i<;>rfl
 | j+1,i,.loop _=>by rw[Nat.succ_add];cases i<;>rfl
 | j+1,i,.rangeFunc _ _ _ _=>by rw[Nat.succ_add];cases i<;>rfl
 | j+1,i,.exit _=>by rw[Nat.succ_add];cases i<;>rfl
 | j+1,i,.scope _=>by rw[Nat.succ_add];cases i<;>rfl
 | j+1,i,.label _=>by rw[Nat.succ_add];cases i<;>rfl
 | j+1,i,.goto _=>by rw[Nat.succ_add];cases i<;>rfl
 | j+1,i,.ret=>by rw[Nat.succ_add];cases i<;>rfl
 | j+1,i,.refuse _=>by rw[Nat.succ_add];cases i<;>rfl
theorem Reach.trans {nt:Nat}{c c1 c2:Code}{e e1 e2:Env}{S S1 S2:St}(h:Reach P K nt c e S c1 e1 S1) (k:Reach P K nt c1 e1 S1 c2 e2 S2):Reach P K nt c e S c2 e2 S2:=fun o eF SF hS=>h o eF SF (k o eF SF hS)
theorem calls_closed {f:FuncId}{fn:Func}{c:Code}{S S':St}{o:Out}{env':Env}{r:Tmp}{v:AV}{u:Value}{m:Map}{w:World}
 (hfn:P.funcs[f]?=some fn) (hb:fn.body=some c) (hr:fn.results.toList = [.tmp r]) (hs:SoundAt P K c fn.ntmps enew S o env' S') (ho:o=.norm∨o=.ret) (hv:eget env' r=some v) (hu:∀ m,cvo m v=some u)
 (hR:R S.lk m w) (hf:Fre m S.nx S'.nx) (hG:Gl K m) (hold:∀ id b,S.lk id=some b→id<K.g):Calls P f #[] w fun e w'=>e=.returned u∧Below w.heap.size w w':=by
 obtain ⟨l1,q1⟩:=hs
 refine calls_of_wp hfn hb ?_
 refine q1 m _ w hR hf hG (fun t a ha=>by rw[eget_new]at ha;cases ha) (by simp) rfl _ ?_
 intro m' a' w' hst hE hn hd
 obtain ⟨u',h1,h2⟩:=hE r v hv
 have hu':u'=u:=Option.some.inj (h2.symm.trans (hu m'))
 have hrr:(results fn a'.tmps).run P w'=.ok u w':=by
  have e:results fn a'.tmps=(do let vs ← fn.results.mapM (rvs a'.tmps);pure (if h:vs.size=1 then vs[0]else .tuple vs)):=rfl
  rw[e,Sem.run_bind,Array.mapM_eq_mapM_toList,Sem.run_map,hr]
  show Result.ok (a'.tmps.getD r undef) w'=_
  rw[Array.getD_eq_getD_getElem?,h1,hu'];rfl
 have hB:Below w.heap.size w w':=⟨hst.os,hst.tape,hst.output,hst.size,fun k hk=>hst.fr k hk fun id blk L i1 i2 i3=>absurd (hold id blk i2) (by omega)⟩
 rcases ho with rfl|rfl
 ·exact ⟨hd,u,hrr,rfl,hB⟩
 ·exact ⟨hd,u,hrr,rfl,hB⟩
end
end Am
end
