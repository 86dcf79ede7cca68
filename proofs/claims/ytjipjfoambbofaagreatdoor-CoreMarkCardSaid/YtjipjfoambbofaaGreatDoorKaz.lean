/- Package lit: Get, of any word of a line. -/
import Derived.Test.YtjipjfoambbofaaGreatDoorKay
import Derived.Test.YtjipjfoambbofaaGreatDoorKax
import Derived.Test.YtjipjfoambbofaaGreatDoorKat
import Derived.Test.YtjipjfoambbofaaGreatDoorKaw
import Derived.Test.YtjipjfoambbofaaGreatDoorKau
import Derived.Deep.QuietTactic
import Derived.BigQuiet
import Derived.Shelf.SlSortCmp.SmallK
import Derived.Test.YtjipjfoambbofaaGreatDoorShelf
import Derived.WalkSpells
import Derived.WalkLawsBesides
import Derived.Test.YtjipjfoambbofaaGreatDoorKap
import Derived.Deep.DeepCutAuto
import Derived.Deep.CutBlock
set_option linter.unusedVariables false
set_option linter.unusedSimpArgs false
section
namespace Vic
open Go Go.RowKit
theorem sz_digits7 {n k:Nat}(h:n<10 ^ k):sz n≤k:=digs_length_le (B:=4294967296) (by omega) (Nat.lt_of_lt_of_le h (Nat.pow_le_pow_left (by omega) k))
theorem good_fits7 {l:List UInt8}(h:FracGood l):Fits 2000 (fracOf l):=by
 unfold fracOf
 refine fits_quo h.2.2.1 (Nat.le_trans (sz_digits7 (numOf_lt _ h.1.1.2.1)) h.1.2) (Nat.le_trans (sz_digits7 (numOf_lt _ h.2.1.1.2.1)) h.2.1.2)
theorem qv_fits7 {neg:Bool}{n:Nat}{p:Int}(hn:n<10 ^ 40) (h1 : -200≤p) (h2:p≤200):Fits 30 (qv neg n p):=by
 rw[qv_quo]
 refine fits_quo (Nat.ne_of_gt (Nat.pow_pos (by omega))) (Nat.le_trans (sz_mul _ _) ?_) (Nat.le_trans (pow10_len (by omega)) (by omega))
 have e1:=num40_len hn
 have e2:=pow10_len (p:=p.toNat) (by omega)
 omega
end Vic
namespace Go.Proofs.YtjipjfoambbofaaGreatDoor
open Go.RowKit Vic
def LitAny (s:Txt) (w:World) (e:Ending) (w':World):Prop:=
 (litOf s=none∧GivesNo w e w')∨(∃ q,litOf s=some q∧Fits 1000000 q∧GivesOk (fun x w'=>FracPtr w' x q) w e w')
theorem lone_ascii {l:Txt}(h:∀ c∈l,c.toNat<128):Lone l:=fun i b d hb h1 _=>absurd (h b (List.mem_of_getElem? hb)) (by omega)
theorem strip_mem {l:Txt}{c:UInt8}(h:c∈strip l):c∈l:=by
 cases l with
 | nil=>exact h
 | cons a r=>
   have:c∈(if a=45∨a=43 then r else a :: r):=h
   split at this
   ·exact List.mem_cons_of_mem _ this
   ·exact this
theorem lit_Get_any (w:World) (ht:TabE w) (s:Txt) (hs:OkWord s):Calls Tryz.prog 121 #[.string ⟨s.toArray⟩] w (LitAny s w):=by
 by_cases hl:40<s.length
 ·exact (lit_Get_long w s hl (by have:=hs.1;omega)).mono fun e w' h=>.inl ⟨by unfold litOf;rw[if_pos hl],h⟩
 ·by_cases hg:FracGood s
  ·refine (lit_Get_frac w ht.tab s (by omega) hg).mono fun e w' h=>.inr ⟨_,by unfold litOf;rw[if_neg hl,if_pos hg],?_,h⟩
   exact (good_fits7 hg).mono (by omega)
  ·refine (lit_Get_gen w ht s (by omega) hg fun wr=>strings_IndexAny_eE wr (strip s) (by have:=strip_len s;omega) (lone_ascii fun c hc=>hs.2 c (strip_mem hc))).mono fun e w' h=>?_
   rcases h with ⟨h1,h2⟩|⟨n,p,h1,h2,h3,h4,h5⟩
   ·exact .inl ⟨by unfold litOf;rw[if_neg hl,if_neg hg,h1];rfl,h2⟩
   ·exact .inr ⟨_,by unfold litOf;rw[if_neg hl,if_neg hg,h1];rfl,(qv_fits7 h2 (by omega) (by omega)).mono (by omega),h5⟩
end Go.Proofs.YtjipjfoambbofaaGreatDoor
end
section
namespace Vic
open Go Go.RowKit
theorem idxT_hit {l:List Txt}{s:Txt}{k:Nat}(h:l[k]?=some s) (hn:∀ (j:Nat) (y:Txt),j<k→l[j]?=some y→y≠s):idxT l s=(k:Nat):=
 anyIdx_hit (p:=fun x=>x == s) h (by simp) fun j y hj hy=>by simpa using hn j y hj hy
theorem idxT_miss {l:List Txt}{s:Txt}(hn:∀ (j:Nat) (y:Txt),l[j]?=some y→y≠s):idxT l s=-1:=
 anyIdx_miss (p:=fun x=>x == s) fun j y hy=>by simpa using hn j y hy
def IntR (w:World) (g o:Nat) (n:Int):Prop:=w.cell? ⟨g,o,none⟩=some (.int .i64 n)
theorem idxI_hit {l:List Int}{s:Int}{k:Nat}(h:l[k]?=some s) (hn:∀ (j:Nat) (y:Int),j<k→l[j]?=some y→y≠s):anyIdx (fun x=>x == s) l=(k:Nat):=
 anyIdx_hit h (by simp) fun j y hj hy=>by simpa using hn j y hj hy
theorem idxI_miss {l:List Int}{s:Int}(hn:∀ (j:Nat) (y:Int),l[j]?=some y→y≠s):anyIdx (fun x=>x == s) l=-1:=
 anyIdx_miss fun j y hy=>by simpa using hn j y hy
end Vic
namespace Go.Proofs.YtjipjfoambbofaaGreatDoor
open Go.RowKit Vic
set_option maxRecDepth 100000 in
set_option maxHeartbeats 2000000 in
theorem idx_str (w:World) (v:Value) (l:List Txt) (s:Txt) (hv:StrsIn w v l) (hm:l.length≤1000000):Calls Tryz.prog 142 #[v,.string ⟨s.toArray⟩] w (Rets (.int .i64 (idxT l s)) w):=by
 obtain ⟨A,c,rfl,hlc,hcell⟩:=hv
 have HC:=Lib.hid hcell
 have HM:Hid (∀ (j:Nat) (y:Txt),j<0→l[j]?=some y→y≠s):=fun j y h=>by omega
 clear hcell
 go_enter Tryz.func142,Tryz.ntmps142
 go_wp2_with fail
 go_loop [8] (fun t=>∃ k:Nat,t=.int .i64 k∧k≤l.length∧Hid (∀ (j:Nat) (y:Txt),j<k→l[j]?=some y→y≠s)) (fun t=>l.length - (intOf t).toNat)
 case atStart=>exact ⟨0,rfl,Nat.zero_le _,HM⟩
 case round=>
  obtain ⟨k,rfl,hk,hz⟩:=hrel
  by_cases hlt:k<l.length
  ·obtain ⟨x,hx⟩:∃ x,l[k]?=some x:=⟨l[k],by simp[hlt]⟩
   obtain ⟨g,o,rfl,hc⟩:=HC.out k x hx
   unfold StrR at hc
   rw[Nat.mul_one]at hc
   have HX:=Lib.hid hx
   clear hx
   by_cases hp:s=x
   ·subst hp
    go_wp2_with fail
    go_ret
    exact ⟨ret_int (idxT_hit HX.out hz.out).symm,rfl⟩
   ·have hb:(s == x)=false:=beq_eq_false_iff_ne.2 hp
    have hz2:Hid (∀ (j:Nat) (y:Txt),j<k+1→l[j]?=some y→y≠s):=fun j y hj hy=>by
     rcases Nat.lt_or_eq_of_le (Nat.le_of_lt_succ hj)with h1|h1
     ·exact hz.out j y h1 hy
     ·subst h1
      rw[HX.out]at hy
      cases hy
      exact fun e=>hp e.symm
    clear hp
    go_wp2_with fail
    go_round
    case rel=>exact ⟨k+1,rfl,by omega,hz2⟩
    case measure=>simp[intOf];omega
  ·obtain rfl:k=l.length:=by omega
   have hm2:Hid (idxT l s=-1):=idxT_miss fun j y hy=>hz.out j y (List.getElem?_eq_some_iff.1 hy).1 hy
   go_wp2_with fail
   go_ret
   exact ⟨ret_int hm2.out.symm,rfl⟩
set_option maxRecDepth 100000 in
set_option maxHeartbeats 2000000 in
theorem idx_int (w:World) (v:Value) (l:List Int) (s:Int) (hv:SlIn IntR 1 w v l) (hm:l.length≤1000000):Calls Tryz.prog 267 #[v,.int .i64 s] w (Rets (.int .i64 (anyIdx (fun x=>x == s) l)) w):=by
 obtain ⟨A,c,rfl,hlc,hcell⟩:=hv
 have HC:=Lib.hid hcell
 have HM:Hid (∀ (j:Nat) (y:Int),j<0→l[j]?=some y→y≠s):=fun j y h=>by omega
 clear hcell
 go_enter Tryz.func267,Tryz.ntmps267
 go_wp2_with fail
 go_loop [8] (fun t=>∃ k:Nat,t=.int .i64 k∧k≤l.length∧Hid (∀ (j:Nat) (y:Int),j<k→l[j]?=some y→y≠s)) (fun t=>l.length - (intOf t).toNat)
 case atStart=>exact ⟨0,rfl,Nat.zero_le _,HM⟩
 case round=>
  obtain ⟨k,rfl,hk,hz⟩:=hrel
  by_cases hlt:k<l.length
  ·obtain ⟨x,hx⟩:∃ x,l[k]?=some x:=⟨l[k],by simp[hlt]⟩
   obtain ⟨g,o,rfl,hc⟩:=HC.out k x hx
   unfold IntR at hc
   rw[Nat.mul_one]at hc
   have HX:=Lib.hid hx
   clear hx
   by_cases hp:s=x
   ·subst hp
    go_wp2_with fail
    go_ret
    exact ⟨ret_int (idxI_hit HX.out hz.out).symm,rfl⟩
   ·have hb:(s == x)=false:=beq_eq_false_iff_ne.2 hp
    have hz2:Hid (∀ (j:Nat) (y:Int),j<k+1→l[j]?=some y→y≠s):=fun j y hj hy=>by
     rcases Nat.lt_or_eq_of_le (Nat.le_of_lt_succ hj)with h1|h1
     ·exact hz.out j y h1 hy
     ·subst h1
      rw[HX.out]at hy
      cases hy
      exact fun e=>hp e.symm
    clear hp
    go_wp2_with fail
    go_round
    case rel=>exact ⟨k+1,rfl,by omega,hz2⟩
    case measure=>simp[intOf];omega
  ·obtain rfl:k=l.length:=by omega
   have hm2:Hid (anyIdx (fun x=>x == s) l=-1):=idxI_miss fun j y hy=>hz.out j y (List.getElem?_eq_some_iff.1 hy).1 hy
   go_wp2_with fail
   go_ret
   exact ⟨ret_int hm2.out.symm,rfl⟩
theorem has_int (w:World) (v:Value) (l:List Int) (s:Int) (hv:SlIn IntR 1 w v l) (hm:l.length≤1000000):Calls Tryz.prog 221 #[v,.int .i64 s] w (Rets (.bool (l.contains s)) w):=by
 have CI:=Lib.hid (idx_int w v l s hv hm)
 have e:l.contains s=decide (0≤anyIdx (fun x=>x == s) l):=by
  rw[anyIdx_any,List.contains_eq_any_beq]
  congr 1
  funext x
  by_cases h:x=s
  ·subst h;rfl
  ·rw[beq_eq_false_iff_ne.2 h,beq_eq_false_iff_ne.2 fun e=>h e.symm]
 rw[e]
 generalize anyIdx (fun x=>x == s) l=i at *
 clear e hv
 go_enter Tryz.func221,Tryz.ntmps221
 go_wp2_with fail
 refine CI.out.mono ?_
 rintro e w1 ⟨rfl,rfl⟩
 go_wp2_with fail
 go_ret
 exact ⟨rfl,rfl⟩
end Go.Proofs.YtjipjfoambbofaaGreatDoor
end
section
namespace Vic
open Go Go.RowKit
theorem OwnK.low {Kd:Value→Prop}{w:World}{base base':Nat}{e:TypeId}{size:Nat}{v:Value}{n:Nat}{xs:List Value}(h:OwnK Kd w base e size v n xs) (hb:base'≤base):OwnK Kd w base' e size v n xs:=by
 obtain ⟨h1,h2|⟨g,cap,cur,rfl,a2,a3⟩⟩:=h
 ·exact ⟨h1,.inl h2⟩
 ·exact ⟨h1,.inr ⟨g,cap,cur,rfl,Nat.le_trans hb a2,a3⟩⟩
end Vic
namespace Go.Proofs.YtjipjfoambbofaaGreatDoor
open Go.RowKit Vic
end Go.Proofs.YtjipjfoambbofaaGreatDoor
end
section
namespace Vic
open Go Go.RowKit
theorem CR.cast {B:Nat}{w:World}{r:Nat}{a b:CSt}(h:CR B w r a) (e:a=b):CR B w r b:=e▸h
theorem CR.lv {B:Nat}{w:World}{r:Nat}{st:CSt}(h:CR B w r st):∃ A c,w.cell? ⟨r,9,none⟩=some (.slice A st.l.length c)∧st.l.length≤c∧StrsLow B w (.slice A st.l.length c) st.l:=by
 obtain ⟨rv,cv,lv,mr,mc,ms,rvs,h⟩:=h
 have h1:=h.words
 obtain ⟨A,c,rfl,h2,_⟩:=id h1
 exact ⟨A,c,h.cells.2.2.2.2.2.2.2.2.2.1,h2,h1⟩
theorem CR.atC {B:Nat}{w:World}{r:Nat}{st:CSt}(h:CR B w r st):w.cell? ⟨r,4,none⟩=some (.int .i64 st.at_):=by
 obtain ⟨rv,cv,lv,mr,mc,ms,rvs,h⟩:=h;exact h.cells.2.2.2.2.1
theorem CR.objC {B:Nat}{w:World}{r:Nat}{st:CSt}(h:CR B w r st):w.cell? ⟨r,1,none⟩=some (.string ⟨st.c.obj.toArray⟩):=by
 obtain ⟨rv,cv,lv,mr,mc,ms,rvs,h⟩:=h;exact h.cells.2.1
theorem CR.nameC {B:Nat}{w:World}{r:Nat}{st:CSt}(h:CR B w r st):w.cell? ⟨r,0,none⟩=some (.string ⟨st.c.name.toArray⟩):=by
 obtain ⟨rv,cv,lv,mr,mc,ms,rvs,h⟩:=h;exact h.cells.1
theorem CR.integerC {B:Nat}{w:World}{r:Nat}{st:CSt}(h:CR B w r st):w.cell? ⟨r,8,none⟩=some (.bool st.integer):=by
 obtain ⟨rv,cv,lv,mr,mc,ms,rvs,h⟩:=h;exact h.cells.2.2.2.2.2.2.2.2.1
theorem CR.eC {B:Nat}{w:World}{r:Nat}{st:CSt}(h:CR B w r st):w.cell? ⟨r,10,none⟩=some (.int .i64 st.e):=by
 obtain ⟨rv,cv,lv,mr,mc,ms,rvs,h⟩:=h;exact h.cells.2.2.2.2.2.2.2.2.2.2
theorem CR.free {B:Nat}{w:World}{r:Nat}{st:CSt}(h:CR B w r st) (i:Nat):w.frozen? ⟨r,i,none⟩=false:=by
 obtain ⟨rv,cv,lv,mr,mc,ms,rvs,h⟩:=h;exact h.free i
theorem CR.base {B:Nat}{w:World}{r:Nat}{st:CSt}(h:CR B w r st):B≤r:=by
 obtain ⟨rv,cv,lv,mr,mc,ms,rvs,h⟩:=h;exact h.rB
theorem CR.setL {B:Nat}{w:World}{r:Nat}{st:CSt}(h:CR B w r st) {lv':Value}{l:List Txt}(hl:StrsLow B w lv' l):CR B (w.setCell ⟨r,9,none⟩ lv') r { st with l:=l }:=by
 obtain ⟨rv,cv,lv,mr,mc,ms,rvs,h⟩:=h;exact ⟨_,_,_,_,_,_,_,h.setL hl⟩
theorem CR.setAt {B:Nat}{w:World}{r:Nat}{st:CSt}(h:CR B w r st) (a:Int):CR B (w.setCell ⟨r,4,none⟩ (.int .i64 a)) r { st with at_:=a }:=by
 obtain ⟨rv,cv,lv,mr,mc,ms,rvs,h⟩:=h
 exact ⟨_,_,_,_,_,_,_,h.field (set_other w r 4 _) (by have:=h.blk.set 4 (.int .i64 a);simpa using this) rfl rfl rfl rfl rfl h.words⟩
theorem CR.setInteger {B:Nat}{w:World}{r:Nat}{st:CSt}(h:CR B w r st) (a:Bool):CR B (w.setCell ⟨r,8,none⟩ (.bool a)) r { st with integer:=a }:=by
 obtain ⟨rv,cv,lv,mr,mc,ms,rvs,h⟩:=h
 exact ⟨_,_,_,_,_,_,_,h.field (set_other w r 8 _) (by have:=h.blk.set 8 (.bool a);simpa using this) rfl rfl rfl rfl rfl h.words⟩
theorem CR.setName {B:Nat}{w:World}{r:Nat}{st:CSt}(h:CR B w r st) (a:Txt):CR B (w.setCell ⟨r,0,none⟩ (.string ⟨a.toArray⟩)) r { st with c:={ st.c with name:=a } }:=by
 obtain ⟨rv,cv,lv,mr,mc,ms,rvs,h⟩:=h
 exact ⟨_,_,_,_,_,_,_,h.field (set_other w r 0 _) (by have:=h.blk.set 0 (.string ⟨a.toArray⟩);simpa using this) rfl rfl rfl rfl rfl h.words⟩
theorem CR.setObj {B:Nat}{w:World}{r:Nat}{st:CSt}(h:CR B w r st) (a:Txt):CR B (w.setCell ⟨r,1,none⟩ (.string ⟨a.toArray⟩)) r { st with c:={ st.c with obj:=a } }:=by
 obtain ⟨rv,cv,lv,mr,mc,ms,rvs,h⟩:=h
 exact ⟨_,_,_,_,_,_,_,h.field (set_other w r 1 _) (by have:=h.blk.set 1 (.string ⟨a.toArray⟩);simpa using this) rfl rfl rfl rfl rfl h.words⟩
def Numbered (B r:Nat) (st:CSt) (w:World) (e:Ending) (w':World):Prop:=
 ∃ x,e=.returned x∧CR B w' r st.number.2∧Below B w w'∧w.heap.size≤w'.heap.size∧Fr w w'∧((litOf st.word.1=none∧x=.pointer none)∨(∃ q,litOf st.word.1=some q∧Fits 1000000 q∧FracPtr w' x q))
end Vic
namespace Go.Proofs.YtjipjfoambbofaaGreatDoor
open Go.RowKit Vic
theorem core_many {B:Nat}{w:World}{r:Nat}{st:CSt}(h:CR B w r st) (v:Value) (ns:List Int) (hv:SlIn IntR 1 w v ns) (hn:ns.length≤1000000):Calls Tryz.prog 145 #[.pointer (some ⟨r,0,none⟩),v] w (Noted B r st (!ns.contains (st.l.length:Int)) 1 w):=by
 have CF:Hid (∀ b,Calls Tryz.prog 80 #[.pointer (some ⟨r,0,none⟩),.bool b,.int .i64 1] w (Noted B r st b 1 w)):=fun b=>core_fails h b 1
 have CH:=Lib.hid (has_int w v ns (st.l.length:Int) hv hn)
 obtain ⟨rv,cv,lv,mr,mc,ms,rvs,hd⟩:=h
 have hw:=hd.words
 obtain ⟨A,c,rfl,hlc,hcell⟩:=hw
 have hc:=hd.cells.2.2.2.2.2.2.2.2.2.1
 generalize ns.contains (st.l.length:Int)=b at *
 clear hd hcell hv
 go_enter Tryz.func145,Tryz.ntmps145
 go_wp2_with fail
 refine CH.out.mono ?_
 rintro e w1 ⟨rfl,rfl⟩
 go_wp2_with fail
 refine (CF.out _).mono ?_
 rintro e w2 ⟨rfl,h1⟩
 have H1:=Lib.hid h1
 clear h1
 go_wp2_with fail
 go_end0
 exact ⟨rfl,H1.out⟩
theorem core_number {B:Nat}{w:World}{r:Nat}{st:CSt}(h:CR B w r st) (ht:TabE w) (hB:B≤w.heap.size) (hT:TabE w→∀ w',Below B w w'→TabE w'):Calls Tryz.prog 222 #[.pointer (some ⟨r,0,none⟩)] w (Numbered B r st w):=by
 unfold Numbered
 have CW:=Lib.hid (core_word h)
 have hok:=h.word
 have h9:=h.base
 have hf1:Hid (∀ w',Only r w w'→Fr w w'):=Lib.hid fun w' ho=>h.frame fun g _ hg=>ho.block g hg
 have HT:=Lib.hid (hT ht)
 have HS:Hid (st.number.2=st.word.2.fails (litOf st.word.1).isNone 1):=rfl
 generalize st.number.2=st9 at *
 unfold Worded at CW
 generalize st.word=sw at *
 obtain ⟨s,st1⟩:=sw
 have CL:Hid (∀ w1,Below B w w1→Calls Tryz.prog 121 #[.string ⟨s.toArray⟩] w1 (LitAny s w1)):=Lib.hid fun w1 hb=>lit_Get_any w1 (HT.out w1 hb) s hok
 have CF:Hid (∀ w2 b,CR B w2 r st1→Calls Tryz.prog 80 #[.pointer (some ⟨r,0,none⟩),.bool b,.int .i64 1] w2 (Noted B r st1 b 1 w2)):=Lib.hid fun w2 b h2=>core_fails h2 b 1
 simp only at HS CW
 clear h ht hT hok
 go_enter Tryz.func222,Tryz.ntmps222
 go_wp2_with fail
 refine CW.out.mono ?_
 rintro e w1 ⟨rfl,hr1,hs1⟩
 have hb1:=hs1.below h9
 have F1:=hf1.out _ hs1
 have HR1:=Lib.hid hr1
 have C1:=Lib.hid (CL.out w1 hb1)
 clear hr1
 go_wp2_with fail
 refine C1.out.mono ?_
 rintro e w2 (⟨h1,rfl,hb2⟩|⟨q,h1,hq,x,rfl,hx,hb2⟩)
 ·have B2:=hb1.trans (hb2.mono (Nat.le_trans hB hb1.size))
  have H1:=Lib.hid h1
  have C2:=Lib.hid (CF.out w2 true (HR1.out.keep hb2))
  have HE:Hid (st9=st1.fails true 1):=by show _=_;rw[HS.out,h1];rfl
  clear h1
  go_wp2_with fail
  refine C2.out.mono ?_
  rintro e w3 ⟨rfl,hr3,hs3,hx3⟩
  have HF3:Fr w w3:=(F1.trans (Fr.below hb2)).trans ((HR1.out.keep hb2).frame fun g _ hg=>hs3.block g hg)
  have HR3:=Lib.hid hr3
  clear hr3 hx3
  go_wp2_with fail
  go_ret
  exact ⟨_,rfl,by rw[HE.out];exact HR3.out,B2.trans (hs3.below h9),by have:=hb2.size;have:=hs1.size;have:=hs3.size;omega,HF3,.inl ⟨H1.out,rfl⟩⟩
 ·have B2:=hb1.trans (hb2.mono (Nat.le_trans hB hb1.size))
  have H1:=Lib.hid h1
  have HQ:=Lib.hid hq
  have HX:=Lib.hid hx
  have C2:=Lib.hid (CF.out w2 false (HR1.out.keep hb2))
  have HE:Hid (st9=st1.fails false 1):=by show _=_;rw[HS.out,h1];rfl
  clear h1 hq hx
  go_wp2_with fail
  refine C2.out.mono ?_
  rintro e w3 ⟨rfl,hr3,hs3,hsame⟩
  obtain rfl:=hsame rfl
  have HR3:=Lib.hid hr3
  clear hr3 hsame
  go_wp2_with fail
  go_ret
  exact ⟨_,rfl,by rw[HE.out];exact HR3.out,B2,by have:=hb2.size;have:=hs1.size;omega,F1.trans (Fr.below hb2),.inr ⟨q,H1.out,HQ.out,HX.out⟩⟩
end Go.Proofs.YtjipjfoambbofaaGreatDoor
end
section
namespace Vic
open Go Go.RowKit
theorem map_cells {w w':World}{m:Nat}{f:List UInt8→Option Value}(hm:StrMap w m f) (hg:w.grownBy w' (some m)) {g:Nat}{cs:Array Value}{t:TypeId}{fr:Nat × Nat}(h:w.heap[g]?=some (.cells cs t fr)):w'.heap[g]?=w.heap[g]?:=
 hg.block g (by
  rcases Nat.lt_or_ge g w.heap.size with h1|h1
  ·exact h1
  ·rw[Array.getElem?_eq_none h1]at h;cases h) fun e=>hm.ne h (Option.some.inj e)
theorem map_map {w w':World}{m n:Nat}{f:List UInt8→Option Value}(hn:StrMap w n f) (hg:w.grownBy w' (some m)) (h:n≠m):StrMap w' n f:=hn.stay (hg.block n hn.lt fun e=>h (Option.some.inj e))
theorem RD.maps {B:Nat}{w:World}{r:Nat}{st:CSt}{rv cv lv:Value}{mr mc ms:Nat}{rvs:List RowV}(h:RD B w r st rv cv lv mr mc ms rvs) {w':World}{m:Nat}{f:List UInt8→Option Value}(hm:StrMap w m f) (hB:B≤m) (hg:w.grownBy w' (some m))
 {rows' cols':List (Txt × Int)}{seen':List Txt}(hR:StrMap w' mr (intOfT rows')) (hC:StrMap w' mc (intOfT cols')) (hS:StrMap w' ms (inSet seen')):RD B w' r { st with rows:=rows',cols:=cols',seen:=seen' } rv cv lv mr mc ms rvs:=by
 refine ⟨(map_cells hm hg h.blk).trans h.blk,h.rB,h.mrB,h.mcB,h.msB,h.mrc,h.mrs,h.mcs,hR,hC,hS,?_,h.rowsEq,?_,?_⟩
 ·exact h.rows.stay fun g cur hc=>by rcases hc with hc|hc<;>exact map_cells hm hg hc
 ·exact h.cols.stay fun g hg'=>by obtain ⟨cur,hc⟩:=h.cols.typed hg';exact map_cells hm hg hc
 ·exact h.words.imp fun g o x _ hx=>⟨hx.1,by
   have e:w'.heap[g]?=w.heap[g]?:=hg.block g (block_lt hx.2.1) fun e=>by have:=Option.some.inj e;have:=hx.1;omega
   show w'.cell? _=_
   simp only[World.cell?,e]
   exact hx.2.1,hx.2.2⟩
theorem intOfT_add (l:List (Txt × Int)) (c:Txt) (v:Int) (s:Txt):(if s=c then some (Value.int .i64 v)else intOfT l s)=intOfT ((c,v) :: l) s:=by
 unfold intOfT atT
 by_cases h:s=c
 ·subst h;simp
 ·have h':(c == s)=false:=beq_eq_false_iff_ne.2 fun e=>h e.symm
  simp[h,h']
theorem intOfT_get (l:List (Txt × Int)) (s:Txt):(intOfT l s).getD (.int .i64 0)=.int .i64 ((atT l s).getD 0)∧(intOfT l s).isSome=(atT l s).isSome:=by
 unfold intOfT
 cases atT l s<;>simp
theorem RowsOwn.lt {w:World}{B:Nat}{rv:Value}{rvs:List RowV}(h:RowsOwn w B rv rvs) {g:Nat}(hg:rv.ownBlock=some g):B≤g∧g<w.heap.size:=h.rows.lt hg
theorem grown_other {w w':World}{B:Nat}{e:TypeId}{size:Nat}{v:Value}{n:Nat}{xs:List Value}(ho:Own w B e size v n xs) (hg:w.grownBy w' v.ownBlock) {g:Nat}{cs:Array Value}{t:TypeId}{fr:Nat × Nat}(h:w.heap[g]?=some (.cells cs t fr)) (ht:t≠e):w'.heap[g]?=w.heap[g]?:=
 hg.block g (by
  rcases Nat.lt_or_ge g w.heap.size with h1|h1
  ·exact h1
  ·rw[Array.getElem?_eq_none h1]at h;cases h) fun eq=>by
  obtain ⟨cur,hc⟩:=ho.typed eq.symm
  rw[hc]at h
  injection h with h
  injection h with _ h2 _
  exact ht h2.symm
theorem grown_map {w w':World}{B:Nat}{e:TypeId}{size:Nat}{v:Value}{n:Nat}{xs:List Value}(ho:Own w B e size v n xs) (hg:w.grownBy w' v.ownBlock) {m:Nat}{f:List UInt8→Option Value}(hm:StrMap w m f):StrMap w' m f:=
 hm.stay (hg.block m hm.lt fun eq=>by
  obtain ⟨cur,hc⟩:=ho.typed eq.symm
  exact hm.ne hc rfl)
theorem grown_words {w w':World}{B:Nat}{e:TypeId}{size:Nat}{v:Value}{n:Nat}{xs:List Value}(ho:Own w B e size v n xs) (hg:w.grownBy w' v.ownBlock) {lv:Value}{l:List Txt}(h:StrsLow B w lv l):StrsLow B w' lv l:=
 h.imp fun g o x _ hx=>⟨hx.1,by
  have e:w'.heap[g]?=w.heap[g]?:=hg.block g (block_lt hx.2.1) fun eq=>by have:=(ho.lt eq.symm).1;have:=hx.1;omega
  show w'.cell? _=_
  simp only[World.cell?,e]
  exact hx.2.1,hx.2.2⟩
theorem rv_at {rvs:List RowV}{x:RowV}{i:Nat}(hi:i<rvs.length+1):(if i=rvs.length then (i=rvs.length∧(rvs ++ [x])[i]?=some x)else (i<rvs.length∧(rvs ++ [x])[i]?=rvs[i]?)):=by
 split
 ·rename_i h;subst h;simp
 ·have:i<rvs.length:=by omega
  exact ⟨this,List.getElem?_append_left this⟩
theorem Fr.own {w w':World}{B:Nat}{e:TypeId}{size:Nat}{v:Value}{n:Nat}{xs:List Value}(ho:Own w B e size v n xs) (hg:w.grownBy w' v.ownBlock) (ht:e=91∨e=45∨e=83∨e=34):Fr w w':=fun g cs t fr h0 a1 a2 a3 a4=>by
 rw[grown_other ho hg h0 ?_]
 ·exact h0
 ·rintro rfl
  rcases ht with h|h|h|h
  ·exact a1 h
  ·exact a2 h
  ·exact a3 h
  ·exact a4 h
theorem RD.addRow {B:Nat}{w:World}{r:Nat}{st:CSt}{rv cv lv:Value}{mr mc ms:Nat}{rvs:List RowV}(h:RD B w r st rv cv lv mr mc ms rvs) {w1:World}{v':Value}{x:RowM}(hx:x.coef = [])
 (ho:Own w1 B 45 5 v' (rvs.length+1) (rvs.flatMap encRow ++ encRow (x,.slice none 0 0))) (hg:w.grownBy w1 rv.ownBlock) :
 RD B (w1.setCell ⟨r,2,none⟩ v') r { st with c:={ st.c with rows:=st.c.rows ++ [x] } } v' cv lv mr mc ms (rvs ++ [(x,.slice none 0 0)]):=by
 have hr:=h.rows.rows
 have hblk1:Row w1 r 91 #[.string ⟨st.c.name.toArray⟩,.string ⟨st.c.obj.toArray⟩,rv,cv,.int .i64 st.at_,.map (some mr),.map (some mc),.map (some ms),.bool st.integer,lv,.int .i64 st.e]:=(grown_other hr hg h.blk (by decide)).trans h.blk
 have hset:∀ g,g≠r→(w1.setCell ⟨r,2,none⟩ v').heap[g]?=w1.heap[g]?:=set_other w1 r 2 v'
 have hmap:∀ {m:Nat}{f:List UInt8→Option Value},StrMap w m f→StrMap (w1.setCell ⟨r,2,none⟩ v') m f:=fun hm=>(grown_map hr hg hm).stay (hset _ fun e=>hm.ne h.blk e.symm)
 have hty:∀ {g:Nat}{cs:Array Value}{t:TypeId}{fr:Nat × Nat},w1.heap[g]?=some (.cells cs t fr)→t≠91→(w1.setCell ⟨r,2,none⟩ v').heap[g]?=w1.heap[g]?:=fun hc ht=>hset _ fun e=>by
  subst e
  rw[hblk1]at hc
  injection hc with hc
  injection hc with _ h2 _
  exact ht h2.symm
 refine ⟨?_,h.rB,h.mrB,h.mcB,h.msB,h.mrc,h.mrs,h.mcs,hmap h.mapR,hmap h.mapC,hmap h.mapS,⟨?_,?_⟩,?_,?_,?_⟩
 ·have:=hblk1.set 2 v';simpa using this
 ·have e:(rvs ++ [(x,Value.slice none 0 0)]).flatMap encRow=rvs.flatMap encRow ++ encRow (x,.slice none 0 0):=by simp
  rw[e,List.length_append,List.length_singleton]
  exact ho.stay fun g hg'=>by obtain ⟨cur,hc⟩:=ho.typed hg';exact hty hc (by decide)
 ·have h1:OwnF w1 B 83 2 (fun i=>i<rvs.length) (rvV rvs) (rvN rvs) (rvX rvs):=h.rows.coefs.other fun g cur hc=>grown_other hr hg hc (by decide)
  have h2:OwnF (w1.setCell ⟨r,2,none⟩ v') B 83 2 (fun i=>i<rvs.length) (rvV rvs) (rvN rvs) (rvX rvs):=h1.other fun g cur hc=>hty hc (by decide)
  have h3:=h2.more (dom':=fun i=>i<rvs.length+1) rvs.length (fun j hj=>by omega)
  refine h3.sub fun i hi=>?_
  rw[List.length_append,List.length_singleton]at hi
  have hat:=rv_at (x:=((x,Value.slice none 0 0):RowV)) hi
  refine ⟨hi,?_⟩
  by_cases e:i=rvs.length
  ·rw[if_pos e]at hat
   unfold rvV rvN rvX
   rw[hat.2,e]
   simp[hx]
  ·rw[if_neg e]at hat
   unfold rvV rvN rvX
   rw[hat.2]
   simp[e]
 ·simp[h.rowsEq]
 ·have h1:=h.cols.stay fun g hg'=>by obtain ⟨cur,hc⟩:=h.cols.typed hg';exact grown_other hr hg hc (by decide)
  exact h1.stay fun g hg'=>by obtain ⟨cur,hc⟩:=h1.typed hg';exact hty hc (by decide)
 ·have h1:=grown_words hr hg h.words
  exact h1.imp fun g o s _ hs=>⟨hs.1,by
   show (w1.setCell ⟨r,2,none⟩ v').cell? _=_
   rw[cell_same (hset g (by have:=hs.1;have:=h.rB;omega))]
   exact hs.2.1,hs.2.2⟩
end Vic
namespace Go.Proofs.YtjipjfoambbofaaGreatDoor
open Go.RowKit Vic
theorem zero_int:∀ w:World,(zeroValue 3).run Tryz.prog w=.ok (.int .i64 0) w:=fun _=>by kernel_rfl
theorem zero_bool:∀ w:World,(zeroValue 4).run Tryz.prog w=.ok (.bool false) w:=fun _=>by kernel_rfl
theorem look_int {w:World}{m:Nat}{l:List (Txt × Int)}(h:StrMap w m (intOfT l)) (s:Txt):(Instr.lookup 88 (.map (some m)) (.string ⟨s.toArray⟩) true).run Tryz.prog w=.ok (.tuple #[.int .i64 ((atT l s).getD 0),.bool (atT l s).isSome]) w:=by
 rw[(h.lookup Tryz.underlying88 Tryz.underlying9 zero_int s).2,(intOfT_get l s).1,(intOfT_get l s).2]
theorem look_seen {w:World}{m:Nat}{l:List Txt}(h:StrMap w m (inSet l)) (s:Txt):(Instr.lookup 89 (.map (some m)) (.string ⟨s.toArray⟩) false).run Tryz.prog w=.ok (.bool (l.contains s)) w:=by
 rw[(h.lookup Tryz.underlying89 Tryz.underlying9 zero_bool s).1,inSet_get]
 congr 2
 rw[Bool.eq_iff_iff];simp
theorem cr_lookR {B:Nat}{w:World}{r:Nat}{st:CSt}(h:CR B w r st) (s:Txt):∃ m,w.cell? ⟨r,5,none⟩=some (.map (some m))∧(Instr.lookup 88 (.map (some m)) (.string ⟨s.toArray⟩) true).run Tryz.prog w=.ok (.tuple #[.int .i64 ((atT st.rows s).getD 0),.bool (atT st.rows s).isSome]) w:=by
 obtain ⟨rv,cv,lv,mr,mc,ms,rvs,h⟩:=h
 exact ⟨mr,h.cells.2.2.2.2.2.1,look_int h.mapR s⟩
theorem cr_lookC {B:Nat}{w:World}{r:Nat}{st:CSt}(h:CR B w r st) (s:Txt):∃ m,w.cell? ⟨r,6,none⟩=some (.map (some m))∧(Instr.lookup 88 (.map (some m)) (.string ⟨s.toArray⟩) true).run Tryz.prog w=.ok (.tuple #[.int .i64 ((atT st.cols s).getD 0),.bool (atT st.cols s).isSome]) w:=by
 obtain ⟨rv,cv,lv,mr,mc,ms,rvs,h⟩:=h
 exact ⟨mc,h.cells.2.2.2.2.2.2.1,look_int h.mapC s⟩
theorem cr_lookS {B:Nat}{w:World}{r:Nat}{st:CSt}(h:CR B w r st) (s:Txt):∃ m,w.cell? ⟨r,7,none⟩=some (.map (some m))∧(Instr.lookup 89 (.map (some m)) (.string ⟨s.toArray⟩) false).run Tryz.prog w=.ok (.bool (st.seen.contains s)) w:=by
 obtain ⟨rv,cv,lv,mr,mc,ms,rvs,h⟩:=h
 exact ⟨ms,h.cells.2.2.2.2.2.2.2.1,look_seen h.mapS s⟩
theorem cr_rowsC {B:Nat}{w:World}{r:Nat}{st:CSt}(h:CR B w r st):∃ A c,w.cell? ⟨r,2,none⟩=some (.slice A st.c.rows.length c)∧st.c.rows.length≤c:=by
 obtain ⟨rv,cv,lv,mr,mc,ms,rvs,h⟩:=h
 have hl:rvs.length=st.c.rows.length:=by rw[← h.rowsEq];simp
 obtain ⟨A,c,e,h2,_⟩:=h.rows.rows.sl
 rw[hl]at e h2
 subst e
 exact ⟨A,c,h.cells.2.2.1,h2⟩
theorem cr_colsC {B:Nat}{w:World}{r:Nat}{st:CSt}(h:CR B w r st):∃ A c,w.cell? ⟨r,3,none⟩=some (.slice A st.c.cols.length c)∧st.c.cols.length≤c:=by
 obtain ⟨rv,cv,lv,mr,mc,ms,rvs,h⟩:=h
 obtain ⟨A,c,rfl,h2,_⟩:=h.cols.sl
 exact ⟨A,c,h.cells.2.2.2.1,h2⟩
theorem grown_below {B:Nat}{w w':World}{m:Nat}(hg:w.grownBy w' (some m)) (hB:B≤m) (hm:m<w.heap.size):Below B w w':=
 ⟨hg.os,hg.tape,hg.output,hg.size,fun j hj=>hg.block j (by omega) (fun e=>by have:=Option.some.inj e;omega)⟩
theorem cr_entryR {B:Nat}{w:World}{r:Nat}{st:CSt}(h:CR B w r st) (s:Txt) (v:Int):∃ m u n w1 w2,w.cell? ⟨r,5,none⟩=some (.map (some m))∧(Instr.mapEntry 88 (.map (some m)) (.string ⟨s.toArray⟩)).run Tryz.prog w=.ok (.tuple #[u,.int .i64 n]) w1 ∧
 (Instr.entryStore 88 (.map (some m)) (.int .i64 n) (.int .i64 v)).run Tryz.prog w1=.ok () w2∧CR B w2 r { st with rows:=(s,v) :: st.rows }∧Below B w w2∧w2.heap.size=w.heap.size∧Fr w w2:=by
 obtain ⟨rv,cv,lv,mr,mc,ms,rvs,h⟩:=h
 obtain ⟨u,n,w1,w2,h1,h2,h3,h4,h5⟩:=h.mapR.entry Tryz.underlying88 Tryz.underlying9 zero_int s (.int .i64 v)
 refine ⟨mr,u,n,w1,w2,h.cells.2.2.2.2.2.1,h1,h2,⟨_,_,_,_,_,_,_,h.maps (rows':=(s,v) :: st.rows) (cols':=st.cols) (seen':=st.seen) h.mapR h.mrB h4 (h3.congr fun x=>?_) (map_map h.mapC h4 h.mrc.symm) (map_map h.mapS h4 h.mrs.symm)⟩,grown_below h4 h.mrB h.mapR.lt,h5,Fr.map_ h.mapR h4⟩
 exact intOfT_add st.rows s v x
theorem cr_updR {B:Nat}{w:World}{r:Nat}{st:CSt}(h:CR B w r st) (s:Txt) (v:Int):∃ m w2,w.cell? ⟨r,5,none⟩=some (.map (some m))∧(Instr.mapUpdate 88 (.map (some m)) (.string ⟨s.toArray⟩) (.int .i64 v)).run Tryz.prog w=.ok () w2 ∧
 CR B w2 r { st with rows:=(s,v) :: st.rows }∧Below B w w2∧w2.heap.size=w.heap.size∧Fr w w2:=by
 obtain ⟨rv,cv,lv,mr,mc,ms,rvs,h⟩:=h
 obtain ⟨w2,h1,h3,h4,h5⟩:=h.mapR.update Tryz.underlying88 Tryz.underlying9 s (.int .i64 v)
 refine ⟨mr,w2,h.cells.2.2.2.2.2.1,h1,⟨_,_,_,_,_,_,_,h.maps (rows':=(s,v) :: st.rows) (cols':=st.cols) (seen':=st.seen) h.mapR h.mrB h4 (h3.congr fun x=>?_) (map_map h.mapC h4 h.mrc.symm) (map_map h.mapS h4 h.mrs.symm)⟩,grown_below h4 h.mrB h.mapR.lt,h5,Fr.map_ h.mapR h4⟩
 exact intOfT_add st.rows s v x
theorem cr_updC {B:Nat}{w:World}{r:Nat}{st:CSt}(h:CR B w r st) (s:Txt) (v:Int):∃ m w2,w.cell? ⟨r,6,none⟩=some (.map (some m))∧(Instr.mapUpdate 88 (.map (some m)) (.string ⟨s.toArray⟩) (.int .i64 v)).run Tryz.prog w=.ok () w2 ∧
 CR B w2 r { st with cols:=(s,v) :: st.cols }∧Below B w w2∧w2.heap.size=w.heap.size∧Fr w w2:=by
 obtain ⟨rv,cv,lv,mr,mc,ms,rvs,h⟩:=h
 obtain ⟨w2,h1,h3,h4,h5⟩:=h.mapC.update Tryz.underlying88 Tryz.underlying9 s (.int .i64 v)
 refine ⟨mc,w2,h.cells.2.2.2.2.2.2.1,h1,⟨_,_,_,_,_,_,_,h.maps (rows':=st.rows) (cols':=(s,v) :: st.cols) (seen':=st.seen) h.mapC h.mcB h4 (map_map h.mapR h4 h.mrc) (h3.congr fun x=>?_) (map_map h.mapS h4 h.mcs.symm)⟩,grown_below h4 h.mcB h.mapC.lt,h5,Fr.map_ h.mapC h4⟩
 exact intOfT_add st.cols s v x
theorem cr_updS {B:Nat}{w:World}{r:Nat}{st:CSt}(h:CR B w r st) (s:Txt):∃ m w2,w.cell? ⟨r,7,none⟩=some (.map (some m))∧(Instr.mapUpdate 89 (.map (some m)) (.string ⟨s.toArray⟩) (.bool true)).run Tryz.prog w=.ok () w2 ∧
 CR B w2 r { st with seen:=s :: st.seen }∧w.grownBy w2 (some m)∧(∃ f,StrMap w m f)∧Below B w w2∧w2.heap.size=w.heap.size∧Fr w w2:=by
 obtain ⟨rv,cv,lv,mr,mc,ms,rvs,h⟩:=h
 obtain ⟨w2,h1,h3,h4,h5⟩:=h.mapS.update Tryz.underlying89 Tryz.underlying9 s (.bool true)
 refine ⟨ms,w2,h.cells.2.2.2.2.2.2.2.1,h1,⟨_,_,_,_,_,_,_,h.maps (rows':=st.rows) (cols':=st.cols) (seen':=s :: st.seen) h.mapS h.msB h4 (map_map h.mapR h4 h.mrs) (map_map h.mapC h4 h.mcs) (h3.congr fun x=>?_)⟩,h4,⟨_,h.mapS⟩,grown_below h4 h.msB h.mapS.lt,h5,Fr.map_ h.mapS h4⟩
 exact inSet_add st.seen s x
theorem cr_clearS {B:Nat}{w:World}{r:Nat}{st:CSt}(h:CR B w r st) (ty:TypeId):∃ m w2,w.cell? ⟨r,7,none⟩=some (.map (some m))∧(Builtin.clear_ #[89] ty #[.map (some m)]).run Tryz.prog w=.ok (.tuple #[]) w2∧CR B w2 r { st with seen:=[] }∧Below B w w2∧w2.heap.size=w.heap.size∧Fr w w2:=by
 obtain ⟨rv,cv,lv,mr,mc,ms,rvs,h⟩:=h
 obtain ⟨w2,h1,h3,h4,h5⟩:=h.mapS.clear (ty:=ty) Tryz.underlying89
 refine ⟨ms,w2,h.cells.2.2.2.2.2.2.2.1,h1,⟨_,_,_,_,_,_,_,h.maps (rows':=st.rows) (cols':=st.cols) (seen':=[]) h.mapS h.msB h4 (map_map h.mapR h4 h.mrs) (map_map h.mapC h4 h.mcs) (h3.congr fun x=>?_)⟩,grown_below h4 h.msB h.mapS.lt,h5,Fr.map_ h.mapS h4⟩
 exact inSet_nil x
end Go.Proofs.YtjipjfoambbofaaGreatDoor
end
section
namespace Vic
open Go Go.RowKit
theorem Only.below9 {r B:Nat}{u w:World}{st:CSt}(hc:CR B u r st) (h:Only r u w) (hB:B≤r) (i:Nat) (x:Value):Below B u (w.setCell ⟨r,i,none⟩ x)∧u.heap.size≤(w.setCell ⟨r,i,none⟩ x).heap.size∧Fr u (w.setCell ⟨r,i,none⟩ x):=⟨(h.setCell i x).below hB,by rw[(h.setCell i x).size];exact Nat.le_refl _,hc.frame fun g _ hg=>(h.setCell i x).block g hg⟩
def CSt.withInt (st:CSt) (b:Bool):CSt:={ st with integer:=b }
end Vic
namespace Go.Proofs.YtjipjfoambbofaaGreatDoor
open Go.RowKit Vic
set_option maxRecDepth 100000 in
set_option maxHeartbeats 2000000 in
theorem core_marks {B:Nat}{w:World}{r:Nat}{st:CSt}(h:CR B w r st) (hl:st.l.length=3):Calls Tryz.prog 146 #[.pointer (some ⟨r,0,none⟩)] w (Turns B r (.tuple #[]) st.marks w):=by
 unfold Turns
 obtain ⟨A,c,hc,hlc,hlow⟩:=h.lv
 have hfz:=h.free 9
 have hB:=h.base
 have HC9:=Lib.hid h
 have hM:Hid (st.marks=((({ st with l:=st.l.drop 2 }).word.2.fails (({ st with l:=st.l.drop 2 }).word.1 != intorgM && ({ st with l:=st.l.drop 2 }).word.1 != intendM) 1).fails ((({ st with l:=st.l.drop 2 }).word.1 == intorgM) == (({ st with l:=st.l.drop 2 }).word.2.fails (({ st with l:=st.l.drop 2 }).word.1 != intorgM && ({ st with l:=st.l.drop 2 }).word.1 != intendM) 1).integer) 5).withInt (({ st with l:=st.l.drop 2 }).word.1 == intorgM)):=rfl
 generalize st.marks=st9 at *
 obtain ⟨g,o,rfl,_⟩:∃ g o,A=some ⟨g,o,none⟩∧True:=by
  obtain ⟨A',c',e,_,h3⟩:=hlow
  obtain ⟨g,o,h4,_⟩:=h3 0 (st.l[0]'(by omega)) (by simp)
  injection e with e1 _ _
  exact ⟨g,o,e1.trans h4,trivial⟩
 have hlow2:Hid (StrsLow B w (.slice (some ⟨g,o+2,none⟩) 1 (c - 2)) (st.l.drop 2)):=by
  obtain ⟨A',c',e,h2,h3⟩:=hlow
  injection e with e1 _ e3
  subst e1;subst e3
  have hd:(st.l.drop 2).length=1:=by simp[hl]
  refine ⟨_,_,by rw[hd],by omega,fun i x hx=>?_⟩
  rw[List.getElem?_drop]at hx
  obtain ⟨g',o',e,h4⟩:=h3 (2+i) x hx
  injection e with e
  injection e with e1 e2
  subst e1;subst e2
  exact ⟨g,o+2,rfl,by rw[show o+2+i*1=o+(2+i)*1 by omega];exact h4⟩
 have CW:=Lib.hid (core_word (h.setL hlow2.out))
 unfold Worded at CW
 generalize ({ st with l:=st.l.drop 2 }:CSt).word=sw at *
 obtain ⟨s,st1⟩:=sw
 simp only at hM CW
 rw[hl]at hc hlc
 clear h hlow hlow2
 go_enter Tryz.func146,Tryz.ntmps146
 go_wp2_with fail
 refine CW.out.mono ?_
 rintro e w1 ⟨rfl,hr1,hb1⟩
 have C1:Hid (∀ b,Calls Tryz.prog 80 #[.pointer (some ⟨r,0,none⟩),.bool b,.int .i64 1] w1 (Noted B r st1 b 1 w1)):=fun b=>core_fails hr1 b 1
 clear hr1
 have fin:Hid (∀ (b1 b2:Bool) (w4:World),(s == intorgM)=b1→(s != intendM)=b2→CR B w4 r ((st1.fails (!b1 && b2) 1).fails (b1 == (st1.fails (!b1 && b2) 1).integer) 5)→CR B (w4.setCell ⟨r,8,none⟩ (.bool b1)) r st9):=Lib.hid fun b1 b2 w4 h1 h2 h4=>by
  rw[hM.out,bne,h1,h2]
  exact h4.setInteger b1
 have C2:Hid (∀ b w2,CR B w2 r (st1.fails b 1)→∀ b',Calls Tryz.prog 80 #[.pointer (some ⟨r,0,none⟩),.bool b',.int .i64 5] w2 (Noted B r (st1.fails b 1) b' 5 w2)):=Lib.hid fun b w2 h2 b'=>core_fails h2 b' 5
 clear hM
 by_cases h1:s = [39,73,78,84,79,82,71,39]
 ·subst h1
  go_wp2_with fail
  refine (C1.out _).mono ?_
  rintro e w2 ⟨rfl,hr2,hb2,hx⟩
  have hi2:=hr2.integerC
  have C3:=Lib.hid (C2.out _ w2 hr2)
  clear hr2 hx
  go_wp2_with fail
  refine (C3.out _).mono ?_
  rintro e w3 ⟨rfl,hr3,hb3,hx⟩
  have hf3:=hr3.free 8;have hi3:=hr3.integerC
  have HR3:=Lib.hid hr3
  clear hr3 hx
  go_wp2_with fail
  go_end0
  exact ⟨rfl,fin.out true _ w3 rfl rfl (by simpa using HR3.out),Only.below9 HC9.out (((((Only.refl _ _).setCell 9 _).trans hb1).trans hb2).trans hb3) hB 8 _⟩
 ·have n1:(s == [39,73,78,84,79,82,71,39])=false:=beq_eq_false_iff_ne.2 h1
  clear h1
  by_cases h2:s = [39,73,78,84,69,78,68,39]
  ·subst h2
   go_wp2_with fail
   refine (C1.out _).mono ?_
   rintro e w2 ⟨rfl,hr2,hb2,hx⟩
   have hi2:=hr2.integerC
   have C3:=Lib.hid (C2.out _ w2 hr2)
   clear hr2 hx
   go_wp2_with fail
   refine (C3.out _).mono ?_
   rintro e w3 ⟨rfl,hr3,hb3,hx⟩
   have hf3:=hr3.free 8;have hi3:=hr3.integerC
   have HR3:=Lib.hid hr3
   clear hr3 hx
   go_wp2_with fail
   go_end0
   exact ⟨rfl,fin.out false false w3 rfl rfl (by simpa using HR3.out),Only.below9 HC9.out (((((Only.refl _ _).setCell 9 _).trans hb1).trans hb2).trans hb3) hB 8 _⟩
  ·have n3:(s == [39,73,78,84,69,78,68,39])=false:=beq_eq_false_iff_ne.2 h2
   clear h2
   go_wp2_with fail
   refine (C1.out _).mono ?_
   rintro e w2 ⟨rfl,hr2,hb2,hx⟩
   have hi2:=hr2.integerC
   have C3:=Lib.hid (C2.out _ w2 hr2)
   clear hr2 hx
   go_wp2_with fail
   refine (C3.out _).mono ?_
   rintro e w3 ⟨rfl,hr3,hb3,hx⟩
   have hf3:=hr3.free 8;have hi3:=hr3.integerC
   have HR3:=Lib.hid hr3
   clear hr3 hx
   go_wp2_with fail
   go_end0
   exact ⟨rfl,fin.out false true w3 n1 (by rw[bne];exact congrArg not n3) (by simpa using HR3.out),Only.below9 HC9.out (((((Only.refl _ _).setCell 9 _).trans hb1).trans hb2).trans hb3) hB 8 _⟩
end Go.Proofs.YtjipjfoambbofaaGreatDoor
end
section
namespace Vic
open Go Go.RowKit
theorem FracPtr.cells {w w':World}{v:Value}{q:Rat}(h:FracPtr w v q) (hs:∀ b o u,w.cell? ⟨b,o,none⟩=some u→w'.cell? ⟨b,o,none⟩=some u) (hnb:∀ b,NatBlk w b→NatBlk w' b):FracPtr w' v q:=by
 have hn:∀ {v:Value}{n:Nat},NatPtr w v n→NatPtr w' v n:=by
  rintro v n ⟨b,s,h1,h2,⟨A,c,h3,h4,h5⟩,hbk⟩
  refine ⟨b,s,h1,hs _ _ _ h2,⟨A,c,h3,h4,fun i hi=>?_⟩,hnb b hbk⟩
  obtain ⟨b',o',h6,h7⟩:=h5 i hi
  exact ⟨b',o',h6,hs _ _ _ h7⟩
 obtain ⟨b,pn,pd,h1,h2,h3,h4,h5,h6⟩:=h
 refine ⟨b,pn,pd,h1,hs _ _ _ h2,hs _ _ _ h3,hs _ _ _ h4,?_,hn h6⟩
 rcases h5 with h5|h5
 ·exact .inl h5
 ·exact .inr (hn h5)
end Vic
namespace Go.Proofs.YtjipjfoambbofaaGreatDoor
open Go.RowKit Vic
end Go.Proofs.YtjipjfoambbofaaGreatDoor
end
section
namespace Vic
open Go Go.RowKit
theorem FracPtr.map7 {w w':World}{x:Value}{q:Rat}{m:Nat}{f:List UInt8→Option Value}(h:FracPtr w x q) (hm:StrMap w m f) (hg:w.grownBy w' (some m)):FracPtr w' x q:=by
 have hs:∀ b,b<w.heap.size→b≠m→w'.heap[b]?=w.heap[b]?:=fun b hb hn=>hg.block b hb fun e=>hn (Option.some.inj e)
 refine h.cells (fun b o u hc=>?_) (fun b hb=>?_)
 ·have hn:b≠m:=by
   rintro rfl
   rw[hm.cell]at hc;cases hc
  rw[cell_same (hs b (block_lt hc) hn)]
  exact hc
 ·have hn:b≠m:=by
   rintro rfl
   obtain ⟨cs,fr,h1⟩:=hb
   exact hm.ne h1 rfl
  exact hb.same (hs b hb.lt hn)
theorem CSt.word_e (st:CSt) (h:st.word.2.e=0):st.e=0:=by
 unfold CSt.word at h
 dsimp only at h
 have hf:∀ b e,(st.fails b e).e=0→e≠0→st.e=0:=fun b e h1 he=>by
  unfold CSt.fails at h1
  split at h1
  ·exact absurd h1 he
  ·exact h1
 split at h
 ·rename_i h2;exact hf _ _ h2 (by decide)
 ·exact hf _ _ h (by decide)
theorem CSt.fails_e {st:CSt}{b:Bool}{e:Int}(h:(st.fails b e).e=0) (he:e≠0):st.e=0∧b=false:=by
 unfold CSt.fails at h
 split at h
 ·exact absurd h he
 ·rename_i h2
  refine ⟨h,?_⟩
  cases b
  ·rfl
  ·simp[h]at h2
def CSt.Same (a b:CSt):Prop:=a.c=b.c∧a.at_=b.at_∧a.rows=b.rows∧a.cols=b.cols∧a.seen=b.seen∧a.integer=b.integer
theorem CSt.Same.trans {a b c:CSt}(h:a.Same b) (k:b.Same c):a.Same c:=
 ⟨h.1.trans k.1,h.2.1.trans k.2.1,h.2.2.1.trans k.2.2.1,h.2.2.2.1.trans k.2.2.2.1,h.2.2.2.2.1.trans k.2.2.2.2.1,h.2.2.2.2.2.trans k.2.2.2.2.2⟩
theorem CSt.fails_same (st:CSt) (b:Bool) (e:Int):(st.fails b e).Same st:=by unfold CSt.fails;split<;>exact ⟨rfl,rfl,rfl,rfl,rfl,rfl⟩
theorem CSt.word_same (st:CSt):st.word.2.Same st:=by
 unfold CSt.word
 dsimp only
 split
 ·exact CSt.Same.trans ⟨rfl,rfl,rfl,rfl,rfl,rfl⟩ (CSt.fails_same st st.l.isEmpty 1)
 ·exact CSt.fails_same _ _ _
theorem CSt.number_same (st:CSt):st.number.2.Same st:=(CSt.fails_same _ _ _).trans (CSt.word_same st)
theorem CSt.number_e {st:CSt}(h:st.number.2.e=0):st.e=0:=CSt.word_e st (CSt.fails_e (b:=(litOf st.word.1).isNone) (e:=1) h (by decide)).1
theorem CSt.put_e (st:CSt) (row:Int) (q:Rat):(st.put row q).e=st.e:=by
 unfold CSt.put
 repeat' split
 all_goals rfl
def CSt.Shape (a b:CSt):Prop:=a.c.rows.length=b.c.rows.length∧a.c.cols.length=b.c.cols.length∧a.rows=b.rows∧a.cols=b.cols∧a.at_=b.at_
theorem CSt.Shape.good {a b:CSt}(h:a.Shape b) (k:b.Good):a.Good:=by
 unfold CSt.Good
 rw[h.1,h.2.1,h.2.2.1,h.2.2.2.1]
 exact k
theorem CSt.put_shape (st:CSt) (row:Int) (q:Rat):(st.put row q).Shape st:=by
 unfold CSt.put CSt.Shape
 repeat' split
 all_goals simp[setColM,setRowM]
def CSt.Fat (st:CSt) (n:Nat):Prop:=∀ x∈st.c.rows,x.coef.length≤n
theorem CSt.Fat.mono {st:CSt}{m n:Nat}(h:st.Fat m) (k:m≤n):st.Fat n:=fun x hx=>Nat.le_trans (h x hx) k
theorem CSt.Fat.put {st:CSt}{n:Nat}(h:st.Fat n) (row:Int) (q:Rat):(st.put row q).Fat (n+1):=by
 have hm:∀ (f:RowM→RowM) (i:Nat),(∀ x:RowM,(f x).coef.length≤x.coef.length+1)→∀ x∈st.c.rows.modify i f,x.coef.length≤n+1:=fun f i hf x hx=>by
  obtain ⟨j,hj⟩:=List.getElem?_of_mem hx
  rw[List.getElem?_modify]at hj
  cases hy:st.c.rows[j]? with
  | none=>rw[hy]at hj;simp at hj
  | some y=>
    have h1:=h y (List.mem_of_getElem? hy)
    rw[hy]at hj
    replace hj:some (if i=j then f y else y)=some x:=hj
    injection hj with hj
    subst hj
    split
    ·exact Nat.le_trans (hf y) (by omega)
    ·exact Nat.le_trans h1 (Nat.le_succ _)
 unfold CSt.put
 repeat' split
 ·exact h.mono (Nat.le_succ _)
 ·exact h.mono (Nat.le_succ _)
 ·exact hm _ _ fun x=>by simp
 ·exact hm _ _ fun x=>by simp
 ·exact hm _ _ fun x=>by simp
theorem CSt.Same.good {a b:CSt}(h:a.Same b) (k:b.Good):a.Good:=by
 obtain ⟨h1,_,h3,h4,_⟩:=h
 unfold CSt.Good
 rw[h1,h3,h4]
 exact k
end Vic
namespace Go.Proofs.YtjipjfoambbofaaGreatDoor
open Go.RowKit Vic
set_option maxRecDepth 100000 in
set_option maxHeartbeats 8000000 in
theorem core_pairs {B:Nat}{w:World}{r g:Nat}{lb:Array Value}{st:CSt}(h:CR B w r st) (ht:TabE w) (hB:B≤w.heap.size) (hT:∀ w',Below B w w'→TabE w') (hgood:st.Good) {nf:Nat}(hfat:st.Fat nf) (Pw:World→Prop) (hP0:Pw w) (hP:∀ W W',Pw W→Fr W W'→Pw W')
 (eg:∀ args w,(callFunc g args).run Tryz.prog w=.ok (.enter g args) w)
 (HP:∀ (W:World) (sk:CSt) (row:Int) (q:Rat) (x:Value),CR B W r sk→Pw W→Below B w W→FracPtr W x q→Fits 1000000 q→sk.at_=st.at_→sk.c.rows.length=st.c.rows.length→sk.c.cols.length=st.c.cols.length→sk.Fat (nf+2)→row<(sk.c.rows.length:Int)→(0≤row∨sk.at_=3)→Calls Tryz.prog g (#[.int .i64 row,x] ++ lb) W (Turns B r (.tuple #[]) (sk.put row q) W)) :
 Calls Tryz.prog 147 #[.pointer (some ⟨r,0,none⟩),.func (.func g) #[] lb] w (Turns B r (.tuple #[]) st.pairs w):=by
 unfold Turns
 have hr:=h.base
 have HM:Hid (st.pairs=CSt.pairsFrom 0 st):=rfl
 have HPW:=Lib.hid hP
 have HHP:=Lib.hid HP
 have HT:=Lib.hid hT
 have HG:=Lib.hid hgood
 have HFT:=Lib.hid hfat
 have HC0:=Lib.hid h
 have HP00:=Lib.hid hP0
 clear ht hgood hfat h hP hP0 HP hT
 go_enter Tryz.func147,Tryz.ntmps147
 go_wp2_with fail
 go_loopw [4] (fun iv wr=>∃ (k:Nat) (sk:CSt),iv=.int .i64 k∧k≤2∧Hid (CR B wr r sk)∧Hid (Pw wr)∧Hid (sk.Good∧sk.at_=st.at_∧sk.c.rows.length=st.c.rows.length∧sk.c.cols.length=st.c.cols.length∧sk.Fat (nf+k))∧Hid (st.pairs=CSt.pairsFrom k sk)∧Hid (0<k→sk.e=0)∧Below B w wr∧Hid (Fr w wr)) (fun iv _=>2 - (intOf iv).toNat)
 case atStart=>exact ⟨0,st,rfl,by omega,HC0,HP00,⟨HG.out,rfl,rfl,rfl,HFT.out⟩,HM,fun h=>by omega,Below.refl _ _,Fr.refl _⟩
 case round=>
  obtain ⟨k,sk,rfl,hk,hc,hpw,hgd,hm,he0,hbr,hfr⟩:=hrel
  obtain ⟨A,c,hlv,hlc,_⟩:=hc.out.lv
  have hcase:(Hid (st.pairs=sk)∧(2≤k∨(k=1∧sk.l.length=0)))∨(Hid (st.pairs=if sk.pair.e=0 then CSt.pairsFrom (k+1) sk.pair else sk.pair)∧(k=0∨(k=1∧0<sk.l.length))):=by
   rcases k with _|_|k
   ·refine .inr ⟨?_,.inl rfl⟩
    show _=_
    rw[hm.out]
    show CSt.pairs sk=_
    unfold CSt.pairs
    dsimp only
    by_cases h0:sk.pair.e=0
    ·by_cases h1:sk.pair.l = []
     ·simp[h0,h1,CSt.pairsFrom]
     ·simp[h0,h1,CSt.pairsFrom]
    ·simp[h0]
   ·by_cases h1:sk.l = []
    ·exact .inl ⟨by show _=_;rw[hm.out];simp[CSt.pairsFrom,h1],.inr ⟨rfl,by simp[h1]⟩⟩
    ·refine .inr ⟨?_,.inr ⟨rfl,List.length_pos_iff.2 h1⟩⟩
     show _=_
     rw[hm.out]
     simp[CSt.pairsFrom,h1]
   ·exact .inl ⟨hm.out,.inl (by omega)⟩
  clear hm
  rcases hcase with ⟨hE,hk2|⟨rfl,hl0⟩⟩|⟨hE,hgo⟩
  ·obtain rfl:k=2:=by omega
   go_wp2_with fail
   go_end0
   exact ⟨rfl,by rw[hE.out];exact hc.out,hbr,hbr.size,hfr.out⟩
  ·rw[hl0]at hlv
   go_wp2_with fail
   go_end0
   exact ⟨rfl,by rw[hE.out];exact hc.out,hbr,hbr.size,hfr.out⟩
  ·obtain ⟨s,s1,h1⟩:∃ a b,sk.word=(a,b):=⟨_,_,rfl⟩
   obtain ⟨o,ho⟩:∃ x,x=atT s1.rows s:=⟨_,rfl⟩
   obtain ⟨s2,h2⟩:∃ x,x=s1.fails (o.isNone || s1.seen.contains s) 4:=⟨_,rfl⟩
   obtain ⟨s3,h3⟩:∃ x,x=s2.fails (decide (o.getD 0<0) && s2.at_ != 3) 7:=⟨_,rfl⟩
   obtain ⟨q,s4,h4⟩:∃ a b,s3.number=(a,b):=⟨_,_,rfl⟩
   have hp:Hid (sk.pair=if s4.e≠0 then s4 else ({ s4 with seen:=s :: s4.seen }:CSt).put (o.getD 0) (q.getD 0)):=by
    show _=_
    unfold CSt.pair
    dsimp only
    rw[h1]
    dsimp only
    rw[← ho,← h2,← h3,h4]
   have CW:Hid (Calls Tryz.prog 144 #[.pointer (some ⟨r,0,none⟩)] wr (fun e w'=>e=.returned (.string ⟨s.toArray⟩)∧CR B w' r s1∧Only r wr w')):=by
    have:=core_word hc.out
    unfold Worded at this
    rwa [h1]at this
   have CF1:Hid (∀ W b,CR B W r s1→Calls Tryz.prog 80 #[.pointer (some ⟨r,0,none⟩),.bool b,.int .i64 4] W (Noted B r s1 b 4 W)):=Lib.hid fun W b hW=>core_fails hW b 4
   have CF2:Hid (∀ W b,CR B W r s2→Calls Tryz.prog 80 #[.pointer (some ⟨r,0,none⟩),.bool b,.int .i64 7] W (Noted B r s2 b 7 W)):=Lib.hid fun W b hW=>core_fails hW b 7
   have CN:Hid (∀ W,CR B W r s3→Below B w W→Calls Tryz.prog 222 #[.pointer (some ⟨r,0,none⟩)] W (fun e w'=>∃ x,e=.returned x∧CR B w' r s4∧Below B W w'∧W.heap.size≤w'.heap.size∧Fr W w'∧(s4.e=0→∃ qq,q=some qq∧Fits 1000000 qq∧FracPtr w' x qq))):=Lib.hid fun W hW hb=>by
    refine (core_number hW (HT.out W hb) (Nat.le_trans hB hb.size) fun _ W' hb'=>HT.out W' (hb.trans hb')).mono ?_
    rintro e w' ⟨x,g1,g2,g3,g4,g5,g6⟩
    rw[h4]at g2
    refine ⟨x,g1,g2,g3,g4,g5,fun h0=>?_⟩
    have e4:q=litOf s3.word.1:=(congrArg Prod.fst h4).symm
    have e5:s4=s3.word.2.fails (litOf s3.word.1).isNone 1:=(congrArg Prod.snd h4).symm
    rcases g6 with ⟨g7,_⟩|⟨qq,g7,g8,g9⟩
    ·rw[e5,g7]at h0
     have:=(CSt.fails_e h0 (by decide)).2
     simp at this
    ·exact ⟨qq,e4.trans g7,g8,g9⟩
   have hfacts:Hid (s4.e=0→({ s4 with seen:=s :: s4.seen }:CSt).Good∧s4.at_=sk.at_∧s4.c=sk.c∧o.getD 0<sk.c.rows.length∧(0≤o.getD 0∨s4.at_=3)):=Lib.hid fun h0=>by
    have z4:s4.Same s3:=by have:=CSt.number_same s3;rwa [h4]at this
    have z1:s1.Same sk:=by have:=CSt.word_same sk;rwa [h1]at this
    have z2:s2.Same s1:=by rw[h2];exact CSt.fails_same _ _ _
    have z3:s3.Same s2:=by rw[h3];exact CSt.fails_same _ _ _
    have z:=z4.trans (z3.trans (z2.trans z1))
    have y3:s3.e=0:=by have:=@CSt.number_e s3;rw[h4]at this;exact this h0
    rw[h3]at y3
    have y2:=CSt.fails_e y3 (by decide)
    have y1:=y2.1
    rw[h2]at y1
    have y0:=(CSt.fails_e y1 (by decide)).2
    have hG:=z.good hgd.out.1
    cases ho2:o with
    | none=>rw[ho2]at y0;simp at y0
    | some i=>
      have hb:=hgd.out.1.1 s i (by rw[← z1.2.2.1,← ho,ho2])
      refine ⟨hG,z.2.1,z.1,hb.2,?_⟩
      have:=y2.2
      rw[ho2]at this
      rw[z4.2.1.trans z3.2.1]
      show 0≤i∨_
      by_cases hi:i<0
      ·right
       simpa [hi]using this
      ·exact .inl (by omega)
   have H2:=Lib.hid h2
   have H3:=Lib.hid h3
   have HE3:Hid (s3=s2.fails (decide (o.getD 0<0) && s2.at_ != 3) 7):=h3
   have hok:=hc.out.word
   rw[h1]at hok
   have HOK:=Lib.hid hok
   have HO:=Lib.hid ho
   obtain ⟨row,hrow⟩:∃ x,x=o.getD 0:=⟨_,rfl⟩
   obtain ⟨is_,his⟩:∃ x,x=o.isSome:=⟨_,rfl⟩
   have HLK:Hid (∀ W,CR B W r s1→∃ m,W.cell? ⟨r,5,none⟩=some (.map (some m))∧(Instr.lookup 88 (.map (some m)) (.string ⟨s.toArray⟩) true).run Tryz.prog W=.ok (.tuple #[.int .i64 row,.bool is_]) W):=Lib.hid fun W hW=>by
    obtain ⟨m,g1,g2⟩:=cr_lookR hW s
    rw[← ho,← hrow,← his]at g2
    exact ⟨m,g1,g2⟩
   have HN:Hid (o.isNone = !is_):=by rw[his];cases o<;>rfl
   have hfacts2:Hid (s4.e=0→({ s4 with seen:=s :: s4.seen }:CSt).Good∧s4.at_=sk.at_∧s4.c=sk.c∧row<sk.c.rows.length∧(0≤row∨s4.at_=3)):=by rw[hrow];exact hfacts.out
   have hp2:Hid (sk.pair=if s4.e≠0 then s4 else ({ s4 with seen:=s :: s4.seen }:CSt).put row (q.getD 0)):=by rw[hrow];exact hp.out
   have hH3:Hid (s3=s2.fails (decide (row<0) && s2.at_ != 3) 7):=by rw[hrow];exact h3
   have hH2:Hid (s2=s1.fails (!is_ || s1.seen.contains s) 4):=by show _=_;rw[h2,HN.out]
   have hcases:(is_=false∧0≤row∧Hid (decide (row<0)=false))∨(is_=true∧row<0∧Hid (decide (row<0)=true))∨(is_=true∧0≤row∧Hid (decide (row<0)=false)):=by
    by_cases hi:row<0
    ·cases ho9:o with
     | none=>rw[ho9]at hrow;simp at hrow;omega
     | some i=>rw[ho9]at his;exact .inr (.inl ⟨his,hi,decide_eq_true hi⟩)
    ·cases ho9:o with
     | none=>rw[ho9]at his;exact .inl ⟨his,by omega,decide_eq_false hi⟩
     | some i=>rw[ho9]at his;exact .inr (.inr ⟨his,by omega,decide_eq_false hi⟩)
   have hgk:(k:Int)<2:=by omega
   have hlk:(((k:Int) == 0)=true)∨(((k:Int) == 0)=false∧0<sk.l.length):=by
    rcases hgo with rfl|⟨rfl,h⟩
    ·exact .inl rfl
    ·exact .inr ⟨rfl,h⟩
   have HK2:Hid (k+1≤2):=by show _≤_;omega
   clear h2 h3 ho h1 h4 hok hgo hfacts hp hrow his HN
   rcases hlk with hlk|⟨hlk,hlp⟩
   all_goals
    rcases hcases with ⟨rfl,hrw,hrd⟩|⟨rfl,hrw,hrd⟩|⟨rfl,hrw,hrd⟩
    all_goals
     go_wp2_with fail
     refine CW.out.mono ?_
     rintro e w1 ⟨rfl,hr1,ho1⟩
     obtain ⟨mr,hmr,hlr⟩:=HLK.out _ hr1
     obtain ⟨ms,hms,hls⟩:=cr_lookS hr1 s
     have C1:=Lib.hid (fun b=>CF1.out w1 b hr1)
     have HR1:=Lib.hid hr1
     clear hr1
     go_wp2_with fail
     refine (C1.out _).mono ?_
     rintro e w2 ⟨rfl,hr2,ho2,hx⟩
     clear hx
     have hr2':CR B w2 r s2:=hr2.cast (by rw[hH2.out];simp)
     have hat:=hr2'.atC
     have C2:=Lib.hid (fun b=>CF2.out w2 b hr2')
     have HR2:=Lib.hid hr2'
     clear hr2 hr2'
     go_wp2_with fail
     refine (C2.out _).mono ?_
     rintro e w3 ⟨rfl,hr3,ho3,hx⟩
     clear hx
     have hr3':CR B w3 r s3:=hr3.cast (Eq.trans (by rw[hrd.out];rfl) hH3.out.symm)
     have hb3:Below B w w3:=((hbr.trans (ho1.below hr)).trans (ho2.below hr)).trans (ho3.below hr)
     have hf3:Hid (Fr w w3):=((hfr.out.trans (hc.out.frame fun g _ hg=>ho1.block g hg)).trans (HR1.out.frame fun g _ hg=>ho2.block g hg)).trans (HR2.out.frame fun g _ hg=>ho3.block g hg)
     have C3:=Lib.hid (CN.out w3 hr3' hb3)
     clear hr3 hr3' hlr hls
     go_wp2_with fail
     refine C3.out.mono ?_
     rintro e w4 ⟨x,rfl,hr4,hb4,hz4,hf4,hq⟩
     have he:=hr4.eC
     have HQ:=Lib.hid hq
     have B4:=hb3.trans hb4
     have F4:=Lib.hid (hf3.out.trans hf4)
     by_cases h0:s4.e=0
     ·obtain ⟨qq,hqq,hfit,hx⟩:=hq h0
      have h01:(s4.e != 0)=false:=by simp[h0]
      have HFC:=Lib.hid (hfacts2.out h0)
      obtain ⟨m,w5,hm5,hup,hcr,hgr,⟨f,hmf⟩,hb5,hs5,hf5⟩:=cr_updS hr4 s
      have HX5:=Lib.hid (hx.map7 hmf hgr)
      have B5:=B4.trans hb5
      have F5:=Lib.hid (F4.out.trans hf5)
      have HE:Hid (st.pairs=CSt.pairsFrom (k+1) (({ s4 with seen:=s :: s4.seen }:CSt).put row qq)∧(({ s4 with seen:=s :: s4.seen }:CSt).put row qq).e=0):=by
       have e2:sk.pair=({ s4 with seen:=s :: s4.seen }:CSt).put row qq:=by rw[hp2.out,if_neg (by simp[h0]),hqq];rfl
       have e3:(({ s4 with seen:=s :: s4.seen }:CSt).put row qq).e=0:=by rw[CSt.put_e];exact h0
       show _∧_
       rw[hE.out,e2,if_pos e3]
       exact ⟨rfl,e3⟩
      have HC:=Lib.hid (HHP.out w5 { s4 with seen:=s :: s4.seen } row qq x hcr (HPW.out _ _ HP00.out F5.out) B5 HX5.out hfit (HFC.out.2.1.trans hgd.out.2.1) (by rw[← hgd.out.2.2.1,← HFC.out.2.2.1]) (by rw[← hgd.out.2.2.2.1,← HFC.out.2.2.1]) (show ∀ x∈s4.c.rows,x.coef.length≤nf+2 from by rw[HFC.out.2.2.1];exact hgd.out.2.2.2.2.mono (by have:=HK2.out;omega)) (by have:=HFC.out.2.2.2.1;rw[← HFC.out.2.2.1]at this;exact this) HFC.out.2.2.2.2)
      have HQQ:=Lib.hid hqq
      clear h0 hq hqq hfit hx hcr hmf hgr hr4
      go_wp2_with fail
      refine HC.out.mono ?_
      rintro e w6 ⟨rfl,hr6,hb6,hz6,hf6⟩
      have HR6:=Lib.hid hr6
      have HP6:=Lib.hid (HPW.out _ _ HP00.out (F5.out.trans hf6))
      have HF6:=Lib.hid (F5.out.trans hf6)
      have B6:=B5.trans hb6
      have HGD:Hid ((({ s4 with seen:=s :: s4.seen }:CSt).put row qq).Good∧(({ s4 with seen:=s :: s4.seen }:CSt).put row qq).at_=st.at_∧(({ s4 with seen:=s :: s4.seen }:CSt).put row qq).c.rows.length=st.c.rows.length∧(({ s4 with seen:=s :: s4.seen }:CSt).put row qq).c.cols.length=st.c.cols.length∧(({ s4 with seen:=s :: s4.seen }:CSt).put row qq).Fat (nf+(k+1))):=by
       have hps:=CSt.put_shape ({ s4 with seen:=s :: s4.seen }:CSt) row qq
       refine ⟨hps.good HFC.out.1,hps.2.2.2.2.trans (HFC.out.2.1.trans hgd.out.2.1),?_,?_,?_⟩
       ·rw[hps.1,← hgd.out.2.2.1,← HFC.out.2.2.1]
       ·rw[hps.2.1,← hgd.out.2.2.2.1,← HFC.out.2.2.1]
       ·exact CSt.Fat.put (st:={ s4 with seen:=s :: s4.seen }) (n:=nf+k) (show ∀ x∈s4.c.rows,x.coef.length≤nf+k from by rw[HFC.out.2.2.1];exact hgd.out.2.2.2.2) row qq
      clear hr6 hf6
      go_wp2_with fail
      go_roundw
      case rel=>exact ⟨k+1,_,by go_num,HK2.out,HR6,HP6,HGD,Lib.hid HE.out.1,fun _=>HE.out.2,B6,HF6⟩
      case measure=>simp[intOf];omega
     ·have h01:(s4.e != 0)=true:=by simp[h0]
      have HE:Hid (st.pairs=s4):=by
       have e2:sk.pair=s4:=by rw[hp2.out,if_pos (by simpa using h0)]
       show _=_
       rw[hE.out,e2,if_neg h0]
      have HR4:=Lib.hid hr4
      clear h0 hq hr4
      go_wp2_with fail
      refine bodyPost_ret (results_none rfl _ _ _) rfl ?_
      exact ⟨rfl,by rw[HE.out];exact HR4.out,B4,B4.size,F4.out⟩
end Go.Proofs.YtjipjfoambbofaaGreatDoor
end
