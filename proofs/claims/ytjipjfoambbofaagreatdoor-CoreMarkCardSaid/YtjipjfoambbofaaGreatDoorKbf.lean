/- Package victuallerlaw1: a fraction of the draws; the document's fractions as values. -/
import Derived.Test.YtjipjfoambbofaaGreatDoorKay
import Derived.Test.YtjipjfoambbofaaGreatDoorKaw
import Derived.Test.YtjipjfoambbofaaGreatDoorKbe
import Derived.Laws.Rows
import Derived.Laws.Tables
import Derived.Test.YtjipjfoambbofaaGreatDoorKax
import Derived.Test.YtjipjfoambbofaaGreatDoorKav
set_option linter.unusedVariables false
set_option linter.unusedSimpArgs false
section
namespace Vic
open Go Go.RowKit
def RefQ (w:World) (v:Value) (ng:Bool) (n d:Nat):Prop:=∃ x y,v=.agg #[.bool ng,x,y]∧RefN w x n∧RefN w y d∧(ng=true→n≠0)
theorem RefQ.keep {w w':World}{v:Value}{ng:Bool}{n d:Nat}(h:RefQ w v ng n d) (hb:Below w.heap.size w w'):RefQ w' v ng n d:=by
 obtain ⟨x,y,h1,h2,h3,h4⟩:=h
 exact ⟨x,y,h1,h2.keep hb,h3.keep hb,h4⟩
theorem Ints.rowfar {k:IntKind}{w:World}{v:Value}{l:List Nat}{g:Nat}{t:TypeId}{cs:Array Value}(h:Ints k w v l) (hr:Row w g t cs) (hc:∀ (i:Nat) (x:Int),cs[i]?≠some (.int k x)) {w':World}(hO:Only g w w'):Ints k w' v l:=by
 obtain ⟨A,c,h1,h2,h3⟩:=h
 refine ⟨A,c,h1,h2,fun i hi=>?_⟩
 obtain ⟨b,o,hA,hcl⟩:=h3 i hi
 refine ⟨b,o,hA,?_⟩
 by_cases e:b=g
 ·subst e
  rw[hr.cell]at hcl
  exact absurd hcl (hc _ _)
 ·rw[hO.cell e];exact hcl
theorem NatPtr.rowfar {w:World}{v:Value}{n:Nat}{g:Nat}{t:TypeId}{cs:Array Value}(h:NatPtr w v n) (hr:Row w g t cs) (hc:∀ (i:Nat) (x:Int),cs[i]?≠some (.int .u32 x)) (h0:∀ A l c,cs[0]?≠some (.slice A l c)) {w':World}(hO:Only g w w'):NatPtr w' v n:=by
 obtain ⟨b,s,h1,h2,⟨A,c,rfl,h4,h5⟩,hbk⟩:=h
 have h3:U32s w (.slice A (dgs n).length c) (dgs n):=⟨A,c,rfl,h4,h5⟩
 by_cases e:b=g
 ·subst e
  rw[hr.cell]at h2
  exact absurd h2 (h0 _ _ _)
 ·exact ⟨b,_,h1,by rw[hO.cell e];exact h2,Ints.rowfar h3 hr hc hO,hbk.same (hO.block b e)⟩
theorem FracPtr.rowfar {w:World}{v:Value}{q:Rat}{g:Nat}{t:TypeId}{cs:Array Value}(h:FracPtr w v q) (hr:Row w g t cs) (hc:∀ (i:Nat) (x:Int),cs[i]?≠some (.int .u32 x)) (h0:∀ A l c,cs[0]?≠some (.slice A l c)) (h2:∀ a,cs[2]?≠some (.pointer a)) {w':World}(hO:Only g w w'):FracPtr w' v q:=by
 obtain ⟨b,pn,pd,e1,e2,e3,e4,e5,e6⟩:=h
 obtain ⟨bd,sd,hpd,_,_⟩:=id e6
 have hb:b≠g:=fun e=>by
  subst e
  rw[hr.cell,hpd]at e4
  exact h2 _ e4
 have hk:∀ o,w'.cell? ⟨b,o,none⟩=w.cell? ⟨b,o,none⟩:=fun o=>hO.cell hb
 refine ⟨b,pn,pd,e1,by rw[hk];exact e2,by rw[hk];exact e3,by rw[hk];exact e4,?_,e6.rowfar hr hc h0 hO⟩
 rcases e5 with e5|e5
 ·exact .inl e5
 ·exact (NatPtr.rowfar e5 hr hc h0 hO).at_
end Vic
namespace Go.Proofs.YtjipjfoambbofaaGreatDoor
open Go.RowKit Vic
set_option maxRecDepth 100000 in
set_option maxHeartbeats 4000000 in
theorem ref_Frac (w:World) (ng:Bool) (u v:Value) (n d:Nat) (hn:RefN w u n) (hd:RefN w v d) :
 Calls Tryz.prog 83 #[.bool ng,u,v] w (Gives (fun x w'=>RefQ w' x (ng && decide (n≠0)) n d) w):=by
 obtain ⟨A,c,rfl,hA⟩:=hn.open_
 obtain ⟨A2,c2,rfl,hA2⟩:=hd.open_
 have hb:Hid ((0<(tdg n).length)↔n≠0):=Lib.hid ⟨fun h e=>by rw[e,tdg_zero]at h;simp at h,fun h=>tdg_pos h⟩
 clear hn hd
 have hsz:(Tryz.prog.info? 39).map (·.size)=some 3:=by kernel_rfl
 have h01:∀ cs,Below w.heap.size w (w.alloc (.cells cs 39)):=fun cs=>(Below.refl _ _).alloc (Nat.le_refl _) _
 have HA:=Lib.hid hA;have HA2:=Lib.hid hA2;have H01:=Lib.hid h01
 clear hA hA2 h01
 cases ng
 ·go_enter Tryz.func83,Tryz.ntmps83
  go_wp2_with fail
  refine bodyPost_ret (v:=.agg #[.bool false,.slice A (tdg n).length c,.slice A2 (tdg d).length c2]) (results_cell_row (p:=6) (ty:=39) Tryz.results83 _ _ w.heap.size 39 #[.bool false,.slice A (tdg n).length c,.slice A2 (tdg d).length c2] (0,0) _ (by simp[go_sem]) (heap_alloc_new _ _) Tryz.underlying39 rfl hsz) rfl ?_
  exact ⟨_,rfl,⟨_,_,rfl,Ints.keep HA.out (H01.out _),Ints.keep HA2.out (H01.out _),fun h=>by cases h⟩,H01.out _⟩
 ·obtain ⟨bb,hbb⟩:∃ bb,bb=decide (0<(tdg n).length):=⟨_,rfl⟩
  have hbn:Hid (bb=(true && decide (n≠0))):=Lib.hid (by rw[hbb,Bool.true_and];exact decide_eq_decide.2 hb.out)
  have hbq:=hbb.symm
  clear hbb
  go_enter Tryz.func83,Tryz.ntmps83
  go_wp2_with fail
  refine bodyPost_ret (v:=.agg #[.bool bb,.slice A (tdg n).length c,.slice A2 (tdg d).length c2]) (results_cell_row (p:=6) (ty:=39) Tryz.results83 _ _ w.heap.size 39 #[.bool bb,.slice A (tdg n).length c,.slice A2 (tdg d).length c2] (0,0) _ (by simp[go_sem]) (heap_alloc_new _ _) Tryz.underlying39 rfl hsz) rfl ?_
  exact ⟨_,rfl,⟨_,_,by rw[← hbn.out],Ints.keep HA.out (H01.out _),Ints.keep HA2.out (H01.out _),fun h=>by simpa using h⟩,H01.out _⟩
end Go.Proofs.YtjipjfoambbofaaGreatDoor
end
section
namespace Vic
open Go Go.RowKit
theorem tdg_top {n:Nat}(h:n≠0):0<(tdg n).getD ((tdg n).length - 1) 0:=by
 have h1:=digs_norm (B:=10000) (by omega) n
 have h2:=tdg_pos h
 rcases Nat.eq_zero_or_pos ((tdg n).getD ((tdg n).length - 1) 0)with h3|h3
 ·exfalso
  apply h1
  show (tdg n).getLast?=some 0
  rw[List.getLast?_eq_getElem?]
  rw[List.getD_eq_getElem?_getD,List.getElem?_eq_getElem (by omega),Option.getD_some]at h3
  rw[List.getElem?_eq_getElem (by omega),h3]
 ·exact h3
theorem txt_done (n i:Nat) (hi:i+1=(tdg n).length):Lib.decDigits n=Lib.decDigits ((tdg n).getD i 0) ++ txt ((tdg n).take i):=by
 have hn:n≠0:=fun e=>by rw[e,tdg_zero]at hi;simp at hi
 have h0:=tdg_top hn
 rw[show (tdg n).length - 1=i by omega]at h0
 have hd:=dig_take (digs_dig (B:=10000) (by omega) n) i
 have h1:=dec_txt ((tdg n).take i) hd _ h0
 have hlen:((tdg n).take i).length=i:=by rw[List.length_take];omega
 have h2:=val_take_step 10000 (tdg n) i
 rw[val_take_all _ _ _ (by omega),val_digs (by omega)]at h2
 rw[hlen,← h2]at h1
 exact h1
end Vic
namespace Go.Proofs.YtjipjfoambbofaaGreatDoor
open Go.RowKit Vic
set_option maxRecDepth 100000 in
set_option maxHeartbeats 4000000 in
theorem ref_N_Text (w:World) (v:Value) (n:Nat) (h:RefN w v n) (hl:(tdg n).length≤100000) :
 Calls Tryz.prog 28 #[v] w (Keeps (.string ⟨(Lib.decDigits n).toArray⟩) w):=by
 obtain ⟨A,c,rfl,hA⟩:=h.open_
 clear h
 by_cases hn:n=0
 ·subst hn
  rw[tdg_zero]at *
  have hd:Hid (Lib.decDigits 0 = [48]):=Lib.hid (by rw[dec_small (by omega)];rfl)
  go_enter Tryz.func28,Tryz.ntmps28
  go_wp2_with fail
  go_ret
  exact ⟨by rw[hd.out];rfl,Below.refl _ _⟩
 ·have hpos:=tdg_pos hn
  have HTD:Hid (∀ i,i+1=(tdg n).length→Lib.decDigits n=Lib.decDigits ((tdg n).getD i 0) ++ txt ((tdg n).take i)):=Lib.hid (txt_done n)
  have HTOP:=Lib.hid (tdg_top hn)
  have HDG:Hid (dig 10000 (tdg n)):=Lib.hid (digs_dig (by omega) n)
  have HTT:Hid (∀ i,i<(tdg n).length→txt ((tdg n).take (i+1))=pad 4 ((tdg n).getD i 0) ++ txt ((tdg n).take i)):=Lib.hid (txt_take (tdg n))
  generalize tdg n=l at *
  obtain ⟨T,hT⟩:∃ T,T=Lib.decDigits n:=⟨_,rfl⟩
  rw[← hT]at HTD ⊢
  clear hT hn
  go_enter Tryz.func28,Tryz.ntmps28
  go_wp2_with fail
  go_loopw [4,3] (fun t s wr=>∃ (i:Nat) (bs:List UInt8),t=.int .i64 i∧i≤l.length∧s=.string ⟨bs.toArray⟩∧Hid (bs=if i<l.length then txt (l.take i)else T)∧Below w.heap.size w wr) (fun t _ _=>l.length - (intOf t).toNat)
  case atStart=>exact ⟨0,[],rfl,by omega,rfl,by show _=_;rw[if_pos hpos];rfl,Below.refl _ _⟩
  case round=>
   obtain ⟨i,bs,rfl,hi,rfl,hbs,hbr⟩:=hrel
   by_cases hlt:i<l.length
   ·obtain ⟨b1,o1,rfl,hc1⟩:=(Ints.keep hA hbr).at_ i hlt
    have hD:=dig_getD HDG.out (by omega) i
    have hbs1:=Lib.hid hbs.out
    rw[if_pos hlt]at hbs1
    have hnext:Hid (∀ k,k≠0→(i+1=l.length→0<l.getD i 0 / 10 ^ (k - 1))→(i+1=l.length→l.getD i 0 / 10 ^ k=0)→(i+1<l.length→k=4)→pad k (l.getD i 0) ++ bs=if i+1<l.length then txt (l.take (i+1))else T):=Lib.hid fun k hk h1 h2 h3=>by
     rw[hbs1.out]
     by_cases h5:i+1<l.length
     ·rw[if_pos h5,h3 h5,HTT.out i hlt]
     ·rw[if_neg h5,HTD.out i (by omega)]
      obtain ⟨k',rfl⟩:∃ k',k=k'+1:=⟨k - 1,by omega⟩
      have h6:=h1 (by omega)
      simp only[Nat.add_sub_cancel]at h6
      rw[pad_top k' _ h6 (h2 (by omega))]
    have hD0:Hid (i+1=l.length→0<l.getD i 0):=Lib.hid fun h=>by
     have:=HTOP.out
     rwa [show l.length - 1=i by omega]at this
    have hbsl:bs.length≤400000:=by
     rw[hbs1.out,txt_length,List.length_take];omega
    generalize l.getD i 0=D at *
    clear hbs
    go_wp2_with fail
    go_loopw [6,5,3] (fun t u s wr=>∃ (k d:Nat) (cs:List UInt8),t=.int .i64 k∧k≤4∧u=.int .i64 d∧Hid (d=D / 10 ^ k)∧d<10000∧s=.string ⟨cs.toArray⟩∧Hid (cs=pad k D ++ bs)∧Hid (i+1=l.length→k≠0→0<D / 10 ^ (k - 1))∧Below w.heap.size w wr) (fun t _ _ _=>4 - (intOf t).toNat)
    case atStart=>exact ⟨0,D,bs,rfl,by omega,rfl,by show _=_;simp,hD,rfl,by show _=_;rfl,fun _ h=>absurd rfl h,hbr⟩
    case round=>
     clear hbr hc1
     obtain ⟨k,d,cs,rfl,hk,rfl,hd,hd4,rfl,hcs,hk0,hbr⟩:=hrel
     have hlast:Hid (i+1=l.length→k=4∨d=0→pad k D ++ bs=T):=Lib.hid fun h1 h2=>by
      have h0:=hD0.out h1
      have hk1:k≠0:=fun e=>by
       subst e
       have:=hd.out
       simp at this
       omega
      have h5:=hnext.out k hk1 (fun _=>hk0.out h1 hk1) (fun _=>by
       rcases h2 with h2|h2
       ·rw[h2];exact Nat.div_eq_of_lt (by omega)
       ·rw[← hd.out];exact h2) (fun h=>by omega)
      rwa [if_neg (by omega)]at h5
     have hcl:cs.length≤400004:=by rw[hcs.out,List.length_append,pad_length];omega
     by_cases hk4:k<4
     ·by_cases hbrk:i+1=l.length∧d=0
      ·have hb1:((i:Int) == (l.length:Int) - 1)=true:=by rw[beq_iff_eq];omega
       obtain ⟨hb2,hb3⟩:=hbrk
       have HL:=Lib.hid (hcs.out.trans (hlast.out hb2 (.inr hb3)))
       subst hb3
       clear hlast hnext hk0 hd hcs
       go_wp2_with fail
       go_roundw
       case rel=>exact ⟨i+1,cs,by go_num,by omega,rfl,by rw[if_neg (by omega)];exact HL,hbr⟩
       case measure=>simp[intOf];omega
      ·have hb1:Hid (((i:Int) == (l.length:Int) - 1)=true→((d:Int) == 0)=false):=Lib.hid fun h=>by
        rw[beq_iff_eq]at h
        rw[beq_eq_false_iff_ne]
        omega
       have hnz:Hid (i+1=l.length→d≠0):=Lib.hid fun h1 h2=>hbrk ⟨h1,h2⟩
       obtain ⟨b,hb⟩:∃ b:UInt8,b=UInt8.ofNat (48+d % 10):=⟨_,rfl⟩
       have hbn:((48:Int)+(d:Int) % 10)=(b.toNat:Int):=by
        rw[hb,byte_dig (Nat.mod_lt _ (by omega))];omega
       have hcs2:Hid (b :: cs=pad (k+1) D ++ bs):=Lib.hid (by rw[pad_front,← hd.out,← hb,hcs.out];rfl)
       obtain ⟨d2,hd2e⟩:∃ d2,d2=d / 10:=⟨_,rfl⟩
       have hd2:Hid (d2=D / 10 ^ (k+1)):=Lib.hid (by rw[hd2e,hd.out,Nat.div_div_eq_div_mul,Nat.pow_succ])
       have hk2:Hid (i+1=l.length→k+1≠0→0<D / 10 ^ (k+1 - 1)):=Lib.hid fun h _=>by
        rw[Nat.add_sub_cancel,← hd.out]
        have:=hnz.out h
        omega
       have hcv:(convert 126 9 (.slice (some ⟨wr.heap.size,0,none⟩) 1 1)).run Tryz.prog (wr.alloc (.cells #[.int .u8 (b.toNat:Int)] 5))=.ok (.string ⟨[b].toArray⟩) (wr.alloc (.cells #[.int .u8 (b.toNat:Int)] 5)):=by
        have:=run_convert_bytes_back (P:=Tryz.prog) (wr.alloc (.cells #[.int .u8 (b.toNat:Int)] 5)) 126 9 5 ⟨wr.heap.size,0,none⟩ 1 [b] (by kernel_rfl) (by kernel_rfl) (by kernel_rfl) (fun j hj=>by
         simp only[List.length_cons,List.length_nil]at hj
         obtain rfl:j=0:=by omega
         rw[show (⟨wr.heap.size,0,none⟩:Addr).add 0=⟨wr.heap.size,0,none⟩ by simp[Addr.add]]
         exact (Row.new _ _ _).cell 0)
        exact this
       have hba:Below w.heap.size w (wr.alloc (.cells #[.int .u8 (b.toNat:Int)] 5)):=hbr.alloc hbr.size _
       have hdd:((d:Int) / 10)=((d2:Nat):Int):=by omega
       have hd10:d2<10000:=by omega
       clear hb hd2e hlast hnext hk0 hd hcs
       by_cases hlst:((i:Int) == (l.length:Int) - 1)=true
       ·have hdz:=hb1.out hlst
        go_wp2_with fail
        go_roundw
        case rel=>exact ⟨k+1,d2,b :: cs,by go_num,by omega,rfl,hd2,hd10,congrArg Value.string (bytes_app [b] cs),hcs2,hk2,hba⟩
        case measure=>simp[intOf];omega
       ·have hlf:((i:Int) == (l.length:Int) - 1)=false:=by simpa using hlst
        clear hlst
        go_wp2_with fail
        go_roundw
        case rel=>exact ⟨k+1,d2,b :: cs,by go_num,by omega,rfl,hd2,hd10,congrArg Value.string (bytes_app [b] cs),hcs2,hk2,hba⟩
        case measure=>simp[intOf];omega
     ·obtain rfl:k=4:=by omega
      have HL:Hid (cs=if i+1<l.length then txt (l.take (i+1))else T):=Lib.hid (by
       rw[hcs.out]
       exact hnext.out 4 (by omega) (fun h=>hk0.out h (by omega)) (fun _=>Nat.div_eq_of_lt (by omega)) (fun _=>rfl))
      clear hlast hnext hk0 hd hcs
      go_wp2_with fail
      go_roundw
      case rel=>exact ⟨i+1,cs,by go_num,by omega,rfl,HL,hbr⟩
      case measure=>simp[intOf];omega
   ·obtain rfl:i=l.length:=by omega
    have hbs1:=Lib.hid hbs.out
    rw[if_neg (by omega)]at hbs1
    clear hbs
    go_wp2_with fail
    go_ret
    exact ⟨by rw[← hbs1.out];rfl,hbr⟩
end Go.Proofs.YtjipjfoambbofaaGreatDoor
end
section
namespace Vic
open Go Go.RowKit
theorem quo_text {ng:Bool}{n d:Nat}(hd:d≠0) (hs:ng=true→n≠0) :
 fracText (quo ng n d)=(if ng then [45]else []) ++ Lib.decDigits (n / Nat.gcd n d) ++ (if d / Nat.gcd n d=1 then []else 47 :: Lib.decDigits (d / Nat.gcd n d)):=by
 refine fracText_eq ng _ _ (quo_num hd) (fun h=>?_) (quo_den hd)
 intro e
 have h1:=Nat.gcd_dvd_left n d
 exact hs h (by rw[← Nat.div_mul_cancel h1,e,Nat.zero_mul])
theorem dec_len_tdg {n L:Nat}(h:(tdg n).length≤L):(Lib.decDigits n).length≤4*L+1:=by
 refine dec_len (Nat.lt_of_lt_of_le (lt_pow_digs_length (B:=10000) (by omega) n) ?_)
 have h1:(10000:Nat) ^ (tdg n).length≤10000 ^ L:=Nat.pow_le_pow_right (by omega) h
 have h2:(10000:Nat) ^ L=10 ^ (4*L):=by rw[show (10000:Nat)=10 ^ 4 by rfl,← Nat.pow_mul]
 have h3:(10:Nat) ^ (4*L)≤10 ^ (4*L+1):=Nat.pow_le_pow_right (by omega) (by omega)
 show 10000 ^ (tdg n).length≤_
 omega
theorem tdg_one:tdg 1 = [1]:=tdg_small (by omega) (by omega)
theorem RefQ.open_ {w:World}{v:Value}{ng:Bool}{n d:Nat}(h:RefQ w v ng n d) :
 ∃ A1 c1 A2 c2,v=.agg #[.bool ng,.slice A1 (tdg n).length c1,.slice A2 (tdg d).length c2]∧RefN w (.slice A1 (tdg n).length c1) n∧RefN w (.slice A2 (tdg d).length c2) d∧(ng=true→n≠0):=by
 obtain ⟨x,y,rfl,hx,hy,hs⟩:=h
 obtain ⟨A1,c1,rfl,h1⟩:=hx.open_
 obtain ⟨A2,c2,rfl,h2⟩:=hy.open_
 exact ⟨A1,c1,A2,c2,rfl,h1,h2,hs⟩
theorem qrow_far (ng:Bool) (a b:Value) (ha:∀ k x,a≠.int k x) (hb:∀ k x,b≠.int k x) (k:IntKind) (i:Nat) (x:Int):(#[.bool ng,a,b]:Array Value)[i]?≠some (.int k x):=by
 match i with
 | 0=>simp
 | 1=>simpa using ha k x
 | 2=>simpa using hb k x
 | i+3=>simp
end Vic
namespace Go.Proofs.YtjipjfoambbofaaGreatDoor
open Go.RowKit Vic
set_option maxRecDepth 100000 in
set_option maxHeartbeats 4000000 in
theorem ref_Q_Low (w:World) (v:Value) (ng:Bool) (n d:Nat) (h:RefQ w v ng n d) (hd:d≠0) (hnl:(tdg n).length≤100000) (hdl:(tdg d).length≤100000) :
 Calls Tryz.prog 27 #[v] w (Gives (fun x w'=>RefQ w' x ng (n / Nat.gcd n d) (d / Nat.gcd n d)) w):=by
 obtain ⟨A1,c1,A2,c2,rfl,hx,hy,hs⟩:=h.open_
 obtain ⟨G,hG⟩:∃ G,G=Nat.gcd n d:=⟨_,rfl⟩
 have hG0:G≠0:=by rw[hG];exact Nat.ne_of_gt (Nat.gcd_pos_of_pos_right _ (by omega))
 have hGl:(tdg G).length≤100000:=by rw[hG];exact Nat.le_trans (tdg_le (Nat.gcd_le_right _ (by omega))) hdl
 have CG:Hid (∀ W,Below w.heap.size w W→Calls Tryz.prog 81 #[.slice A1 (tdg n).length c1,.slice A2 (tdg d).length c2] W (Gives (fun x w'=>RefN w' x G) W)):=Lib.hid fun W hW=>by
  rw[hG];exact ref_Gcd W _ _ n d (hx.keep hW) (hy.keep hW) hnl hdl
 have hne:(ng && decide (n / G≠0))=ng:=by
  cases ng
  ·rfl
  ·have h1:=Nat.gcd_dvd_left n d
   rw[← hG]at h1
   have h2:n / G≠0:=fun e=>hs rfl (by rw[← Nat.div_mul_cancel h1,e,Nat.zero_mul])
   simp[h2]
 rw[← hG]
 have HX:=Lib.hid hx;have HY:=Lib.hid hy;have HN:=Lib.hid hne
 obtain ⟨w0,hw0⟩:∃ w0,w0=(w.alloc (.cells #[.bool ng,.slice A1 (tdg n).length c1,.slice A2 (tdg d).length c2] 39)).alloc (.cells #[.bool false,.slice none 0 0,.slice none 0 0] 39):=⟨_,rfl⟩
 have r1:Row w0 w.heap.size 39 #[.bool ng,.slice A1 (tdg n).length c1,.slice A2 (tdg d).length c2]:=by rw[hw0];exact (Row.new _ _ _).alloc _
 have r2:Row w0 (w.heap.size+1) 39 #[.bool false,.slice none 0 0,.slice none 0 0]:=by
  rw[hw0]
  have h:=Row.new (w.alloc (.cells #[.bool ng,.slice A1 (tdg n).length c1,.slice A2 (tdg d).length c2] 39)) 39 #[.bool false,.slice none 0 0,.slice none 0 0]
  simpa using h
 have b0:Below w.heap.size w w0:=by rw[hw0];exact ((Below.refl _ _).alloc (Nat.le_refl _) _).alloc (by simp) _
 have R1:=Lib.hid r1;have R2:=Lib.hid r2;have W0:=Lib.hid hw0
 clear hx hy hne hs hG h r1 r2 hw0
 go_enter Tryz.func27,Tryz.ntmps27
 go_wp2_with fail
 rw[← W0.out]
 refine (CG.out _ b0).mono ?_
 rintro e w1 ⟨g,rfl,hg,hb1⟩
 have B1:=below_seq b0 hb1
 have CD1:=Lib.hid (ref_Div w1 _ g n G (HX.out.keep B1) hg hnl hGl hG0)
 have HGv:=Lib.hid hg
 have k1:=(Row.keep R1.out hb1).cell 1
 clear CG hg
 go_wp2_with fail
 refine CD1.out.mono ?_
 rintro e w2 ⟨q2,r2,rfl,hq2,_,hb2⟩
 have B2:=below_seq B1 hb2
 have CD2:=Lib.hid (ref_Div w2 _ g d G (HY.out.keep B2) (HGv.out.keep hb2) hdl hGl hG0)
 have HQ2:=Lib.hid hq2
 have k2:=(Row.keep R1.out (below_seq hb1 hb2)).cell 2
 clear CD1 hq2 k1
 go_wp2_with fail
 refine CD2.out.mono ?_
 rintro e w3 ⟨q3,r3,rfl,hq3,_,hb3⟩
 have CF:=ref_Frac w3 ng q2 q3 (n / G) (d / G) (HQ2.out.keep hb3) hq3
 rw[HN.out]at CF
 have CF':=Lib.hid CF
 have B3:=below_seq B2 hb3
 have y3:=below_seq hb1 (below_seq hb2 hb3)
 have k3:=(Row.keep R1.out y3).cell 0
 clear CD2 hq3 CF k2
 go_wp2_with fail
 refine CF'.out.mono ?_
 rintro e w4 ⟨z,rfl,hz,hb4⟩
 obtain ⟨A3,c3,A4,c4,rfl,hx4,hy4,hs4⟩:=hz.open_
 have hrow:=Row.keep R2.out (below_seq y3 hb4)
 have B4:=below_seq B3 hb4
 obtain ⟨w9,hw9⟩:∃ w9,w9=((w4.setCell ⟨w.heap.size+1,0,none⟩ (.bool ng)).setCell ⟨w.heap.size+1,1,none⟩ (.slice A3 (tdg (n / G)).length c3)).setCell ⟨w.heap.size+1,2,none⟩ (.slice A4 (tdg (d / G)).length c4):=⟨_,rfl⟩
 have hO:Only (w.heap.size+1) w4 w9:=by rw[hw9];exact (((Only.refl _ _).setCell 0 _).setCell 1 _).setCell 2 _
 have hcs:=qrow_far false (.slice none 0 0) (.slice none 0 0) (fun _ _ h=>by cases h) (fun _ _ h=>by cases h)
 have K8:=Lib.hid (Ints.rowfar hx4 hrow (hcs _) hO)
 have K9:=Lib.hid (Ints.rowfar hy4 hrow (hcs _) hO)
 have KB:Below w.heap.size w w9:=B4.trans (hO.below (Nat.le_succ _))
 have KR:Hid (w9.heap[w.heap.size+1]?=some (.cells #[.bool ng,.slice A3 (tdg (n / G)).length c3,.slice A4 (tdg (d / G)).length c4] 39 (0,0))):=Lib.hid (by
  rw[hw9]
  exact Row.set (Row.set (Row.set hrow 0 (.bool ng)) 1 _) 2 _)
 have hsz:(Tryz.prog.info? 39).map (·.size)=some 3:=by kernel_rfl
 have q0:=hrow.cell 0;have q1:=hrow.cell 1;have q2:=hrow.cell 2
 have f0:=hrow.free 0;have f1:=hrow.free 1;have f2:=hrow.free 2
 have HW9:=Lib.hid hw9
 clear hx4 hy4 CF' hrow hcs hO hw9 k3 hz
 go_wp2_with fail
 rw[← HW9.out]
 refine bodyPost_ret (v:=.agg #[.bool ng,.slice A3 (tdg (n / G)).length c3,.slice A4 (tdg (d / G)).length c4]) (results_cell_row (p:=2) (ty:=39) Tryz.results27 _ _ (w.heap.size+1) 39 #[.bool ng,.slice A3 (tdg (n / G)).length c3,.slice A4 (tdg (d / G)).length c4] (0,0) _ (by simp[go_sem]) KR.out Tryz.underlying39 rfl hsz) rfl ?_
 exact ⟨_,rfl,⟨_,_,rfl,K8.out,K9.out,hs4⟩,KB⟩
set_option maxRecDepth 100000 in
set_option maxHeartbeats 4000000 in
theorem ref_Q_Text (w:World) (v:Value) (ng:Bool) (n d:Nat) (h:RefQ w v ng n d) (hd:d≠0) (hnl:(tdg n).length≤100000) (hdl:(tdg d).length≤100000) :
 Calls Tryz.prog 11 #[v] w (Keeps (.string ⟨(fracText (quo ng n d)).toArray⟩) w):=by
 obtain ⟨A1,c1,A2,c2,rfl,hx,hy,hs⟩:=h.open_
 rw[quo_text hd hs]
 have CL:Hid (∀ W,Below w.heap.size w W→Calls Tryz.prog 27 #[.agg #[.bool ng,.slice A1 (tdg n).length c1,.slice A2 (tdg d).length c2]] W (Gives (fun x w'=>RefQ w' x ng (n / Nat.gcd n d) (d / Nat.gcd n d)) W)):=Lib.hid fun W hW=>ref_Q_Low W _ ng n d (h.keep hW) hd (by omega) (by omega)
 obtain ⟨G,hG⟩:∃ G,G=Nat.gcd n d:=⟨_,rfl⟩
 rw[← hG]at CL ⊢
 have hN:(tdg (n / G)).length≤100000:=Nat.le_trans (tdg_le (Nat.div_le_self _ _)) hnl
 have hD:(tdg (d / G)).length≤100000:=Nat.le_trans (tdg_le (Nat.div_le_self _ _)) hdl
 have hd1:d / G≠0:=by
  have h1:=Nat.gcd_dvd_right n d
  rw[← hG]at h1
  exact fun e=>hd (by rw[← Nat.div_mul_cancel h1,e,Nat.zero_mul])
 obtain ⟨p,hp⟩:∃ p,p=n / G:=⟨_,rfl⟩
 obtain ⟨q,hq⟩:∃ q,q=d / G:=⟨_,rfl⟩
 rw[← hp]at CL hN ⊢
 rw[← hq]at CL hD hd1 ⊢
 obtain ⟨w0,hw0⟩:∃ w0,w0=w.alloc (.cells #[.bool ng,.slice A1 (tdg n).length c1,.slice A2 (tdg d).length c2] 39):=⟨_,rfl⟩
 have r1:Row w0 w.heap.size 39 #[.bool ng,.slice A1 (tdg n).length c1,.slice A2 (tdg d).length c2]:=by rw[hw0];exact Row.new _ _ _
 have b0:Below w.heap.size w w0:=by rw[hw0];exact (Below.refl _ _).alloc (Nat.le_refl _) _
 have hsz:(Tryz.prog.info? 39).map (·.size)=some 3:=by kernel_rfl
 have R1:=Lib.hid r1;have W0:=Lib.hid hw0;have HS:=Lib.hid hs
 obtain ⟨X,hX⟩:∃ X,X=(if ng then [45]else []) ++ Lib.decDigits p ++ (if q=1 then []else 47 :: Lib.decDigits q):=⟨_,rfl⟩
 rw[← hX]
 have HXX:=Lib.hid hX
 clear hs hG hp hq hx hy h r1 hw0 hX
 go_enter Tryz.func11,Tryz.ntmps11
 go_wp2_with fail
 rw[← W0.out]
 refine (CL.out _ b0).mono ?_
 rintro e w1 ⟨z,rfl,hz,hb1⟩
 obtain ⟨A3,c3,A4,c4,rfl,hx,hy,hs3⟩:=hz.open_
 have hrow:=Row.keep R1.out hb1
 obtain ⟨w2,hw2⟩:∃ w2,w2=((w1.setCell ⟨w.heap.size,0,none⟩ (.bool ng)).setCell ⟨w.heap.size,1,none⟩ (.slice A3 (tdg p).length c3)).setCell ⟨w.heap.size,2,none⟩ (.slice A4 (tdg q).length c4):=⟨_,rfl⟩
 have hO:Only w.heap.size w1 w2:=by rw[hw2];exact (((Only.refl _ _).setCell 0 _).setCell 1 _).setCell 2 _
 have hcs:=qrow_far ng (.slice A1 (tdg n).length c1) (.slice A2 (tdg d).length c2) (fun _ _ h=>by cases h) (fun _ _ h=>by cases h)
 have K8:=Lib.hid (Ints.rowfar hx hrow (hcs _) hO)
 have K9:=Lib.hid (Ints.rowfar hy hrow (hcs _) hO)
 have KB:Below w.heap.size w w2:=(below_seq b0 hb1).trans (hO.below (Nat.le_refl _))
 have KR0:Row w2 w.heap.size 39 #[.bool ng,.slice A3 (tdg p).length c3,.slice A4 (tdg q).length c4]:=by
  rw[hw2]
  exact Row.set (Row.set (Row.set hrow 0 (.bool ng)) 1 _) 2 _
 have KR:=Lib.hid KR0
 have q0:=hrow.cell 0;have q1:=hrow.cell 1;have q2:=hrow.cell 2
 have f0:=hrow.free 0;have f1:=hrow.free 1;have f2:=hrow.free 2
 have g0:=KR0.cell 0;have g1:=KR0.cell 1;have g2:=KR0.cell 2
 rw[hw2]at g0 g1 g2
 have HW2:=Lib.hid hw2
 have CT:=Lib.hid (ref_N_Text w2 _ p K8.out hN)
 clear hx hy CL hrow hcs hO hw2 hz KR0
 go_wp2_with fail
 rw[← HW2.out]
 refine CT.out.mono ?_
 rintro e w5 ⟨rfl,hb5⟩
 have row5:=Row.keep KR.out hb5
 have B5:=KB.trans (hb5.mono KB.size)
 obtain ⟨w6,hw6⟩:∃ w6,w6=w5.alloc (.cells #[.int .i64 1] 3):=⟨_,rfl⟩
 have h56:Below w5.heap.size w5 w6:=by rw[hw6];exact (Below.refl _ _).alloc (Nat.le_refl _) _
 have h26:=below_seq hb5 h56
 have hone:RefN w6 (.slice (some ⟨w5.heap.size,0,none⟩) 1 1) 1:=ref_one (d:=1) (by rw[hw6];exact Row.new _ _ _) (by omega) (by omega)
 have CC0:=ref_Cmp w6 _ _ q 1 (RefN.keep K9.out h26) hone (by omega) (by rw[tdg_one];simp)
 have CT2:=Lib.hid (ref_N_Text w6 _ q (RefN.keep K9.out h26) hD)
 have row6:=Row.keep row5 h56
 have B6:=B5.trans (h56.mono B5.size)
 have k50:=row5.cell 0;have k52:=row5.cell 2
 have k62:=row6.cell 2
 have HW6:=Lib.hid hw6
 clear q0 q1 q2 f0 f1 f2 g0 g1 g2 HW2 CT row5 row6 hone hw6 h26 K8 K9 KR KB R1 W0 hs3
 by_cases hq1:q=1
 case' pos=>
  rw[cmpI_eq hq1]at CC0
  have CC:=Lib.hid CC0
  have HX2:Hid (X=(if ng then [45]else []) ++ Lib.decDigits p):=Lib.hid (by rw[HXX.out,if_pos hq1,List.append_nil])
 case' neg=>
  rw[cmpI_gt (show 1<q by omega)]at CC0
  have CC:=Lib.hid CC0
  have HX2:Hid (X=(if ng then [45]else []) ++ Lib.decDigits p ++ 47 :: Lib.decDigits q):=Lib.hid (by rw[HXX.out,if_neg hq1])
 all_goals
  obtain ⟨P,hP⟩:∃ P,P=Lib.decDigits p:=⟨_,rfl⟩
  obtain ⟨D,hD2⟩:∃ D,D=Lib.decDigits q:=⟨_,rfl⟩
  have hPl:P.length≤400001:=by rw[hP];exact dec_len_tdg hN
  have hDl:D.length≤400001:=by rw[hD2];exact dec_len_tdg hD
  rw[← hP]at HX2 ⊢
  try rw[← hD2]at HX2
  rw[← hD2]at CT2
  clear CC0 HXX hP hD2 hq1
  have ea:∀ s:List UInt8,(⟨#[45]⟩ ++ ⟨s.toArray⟩:ByteArray)=⟨((45:UInt8) :: s).toArray⟩:=fun s=>bytes_app [45] s
  have eb:∀ s:List UInt8,(⟨#[47]⟩ ++ ⟨s.toArray⟩:ByteArray)=⟨((47:UInt8) :: s).toArray⟩:=fun s=>bytes_app [47] s
  cases ng
  all_goals
   go_wp2_with fail
   rw[← HW6.out]
   refine CC.out.mono ?_
   rintro e w' ⟨rfl,rfl⟩
   go_wp2_with fail
 all_goals first
  | (refine CT2.out.mono ?_
     rintro e w7 ⟨rfl,hb7⟩
     go_wp2_with fail
     go_ret
     exact ⟨by rw[HX2.out];simp[eb,bytes_app],below_seq B6 hb7⟩)
  | (go_ret
     exact ⟨by rw[HX2.out];simp,B6⟩)
set_option maxRecDepth 100000 in
set_option maxHeartbeats 4000000 in
theorem ref_Of (w:World) (x:Int) (h1 : -9223372036854775808≤x) (h2:x≤9223372036854775807) :
 Calls Tryz.prog 10 #[.int .i64 x] w (Gives (fun v w'=>RefQ w' v (decide (x<0)) x.natAbs 1) w):=by
 obtain ⟨a,ha⟩:∃ a,a=x.natAbs:=⟨_,rfl⟩
 rw[← ha]
 have ha2:a<18446744073709551616:=by omega
 have CU:=Lib.hid (fun wr=>ref_OfU wr a ha2)
 obtain ⟨w0,hw0⟩:∃ w0,w0=w.alloc (.cells #[.bool false,.slice none 0 0,.slice none 0 0] 39):=⟨_,rfl⟩
 have r1:Row w0 w.heap.size 39 #[.bool false,.slice none 0 0,.slice none 0 0]:=by rw[hw0];exact Row.new _ _ _
 have b0:Below w.heap.size w w0:=by rw[hw0];exact (Below.refl _ _).alloc (Nat.le_refl _) _
 have hsz:(Tryz.prog.info? 39).map (·.size)=some 3:=by kernel_rfl
 have R1:=Lib.hid r1;have W0:=Lib.hid hw0
 clear r1 hw0
 have hclose:∀ (ng:Bool) (w1:World) (v:Value),Below w0.heap.size w0 w1→RefN w1 v a→(ng=true→a≠0)→∃ A c w9,v=.slice A (tdg a).length c ∧
  w9=((((w1.alloc (.cells #[.int .i64 1] 3)).setCell ⟨w.heap.size,0,none⟩ (.bool ng)).setCell ⟨w.heap.size,1,none⟩ (.slice A (tdg a).length c)).setCell ⟨w.heap.size,2,none⟩ (.slice (some ⟨w1.heap.size,0,none⟩) 1 1)) ∧
  w9.heap[w.heap.size]?=some (.cells #[.bool ng,.slice A (tdg a).length c,.slice (some ⟨w1.heap.size,0,none⟩) 1 1] 39 (0,0)) ∧
  RefQ w9 (.agg #[.bool ng,.slice A (tdg a).length c,.slice (some ⟨w1.heap.size,0,none⟩) 1 1]) ng a 1∧Below w.heap.size w w9 ∧
  (w1.alloc (.cells #[.int .i64 1] 3)).cell? ⟨w.heap.size,0,none⟩=some (.bool false)∧(w1.alloc (.cells #[.int .i64 1] 3)).cell? ⟨w.heap.size,1,none⟩=some (.slice none 0 0)∧(w1.alloc (.cells #[.int .i64 1] 3)).cell? ⟨w.heap.size,2,none⟩=some (.slice none 0 0) ∧
  (∀ i,(w1.alloc (.cells #[.int .i64 1] 3)).frozen? ⟨w.heap.size,i,none⟩=false):=by
  intro ng w1 v hb1 hv hs
  obtain ⟨A,c,rfl,hA⟩:=hv.open_
  obtain ⟨w2,hw2⟩:∃ w2,w2=w1.alloc (.cells #[.int .i64 1] 3):=⟨_,rfl⟩
  have h12:Below w1.heap.size w1 w2:=by rw[hw2];exact (Below.refl _ _).alloc (Nat.le_refl _) _
  have hone:RefN w2 (.slice (some ⟨w1.heap.size,0,none⟩) 1 1) 1:=ref_one (d:=1) (by rw[hw2];exact Row.new _ _ _) (by omega) (by omega)
  have y2:=below_seq hb1 h12
  have hrow:=Row.keep R1.out y2
  rw[← hw2]
  obtain ⟨w9,hw9⟩:∃ w9,w9=((w2.setCell ⟨w.heap.size,0,none⟩ (.bool ng)).setCell ⟨w.heap.size,1,none⟩ (.slice A (tdg a).length c)).setCell ⟨w.heap.size,2,none⟩ (.slice (some ⟨w1.heap.size,0,none⟩) 1 1):=⟨_,rfl⟩
  have hO:Only w.heap.size w2 w9:=by rw[hw9];exact (((Only.refl _ _).setCell 0 _).setCell 1 _).setCell 2 _
  have hcs:=qrow_far false (.slice none 0 0) (.slice none 0 0) (fun _ _ h=>by cases h) (fun _ _ h=>by cases h)
  refine ⟨A,c,w9,rfl,hw9,by rw[hw9];exact Row.set (Row.set (Row.set hrow 0 (.bool ng)) 1 _) 2 _,⟨_,_,rfl,Ints.rowfar (Ints.keep hA h12) hrow (hcs _) hO,?_,hs⟩,(below_seq b0 y2).trans (hO.below (Nat.le_refl _)),hrow.cell 0,hrow.cell 1,hrow.cell 2,fun i=>hrow.free i⟩
  exact Ints.rowfar hone hrow (hcs _) hO
 have HC:=Lib.hid hclose
 clear hclose
 by_cases hx:x<0
 ·rw[decide_eq_true hx]
  have e1 : -(x+1)+1=(a:Int):=by omega
  have ha0:a≠0:=by omega
  clear ha
  go_enter Tryz.func10,Tryz.ntmps10
  go_wp2_with fail
  rw[← W0.out]
  refine (CU.out _).mono ?_
  rintro e w1 ⟨v,rfl,hv,hb1⟩
  obtain ⟨A,c,w9,rfl,hw9,hrow9,hq9,hb9,q0,q1,q2,fr⟩:=HC.out true w1 v hb1 hv (fun _=>ha0)
  have f0:=fr 0;have f1:=fr 1;have f2:=fr 2
  have HW9:=Lib.hid hw9;have HR9:=Lib.hid hrow9
  clear fr hw9 hrow9 hv
  go_wp2_with fail
  rw[← HW9.out]
  refine bodyPost_ret (v:=.agg #[.bool true,.slice A (tdg a).length c,.slice (some ⟨w1.heap.size,0,none⟩) 1 1]) (results_cell_row (p:=2) (ty:=39) Tryz.results10 _ _ w.heap.size 39 #[.bool true,.slice A (tdg a).length c,.slice (some ⟨w1.heap.size,0,none⟩) 1 1] (0,0) _ (by simp[go_sem]) HR9.out Tryz.underlying39 rfl hsz) rfl ?_
  exact ⟨_,rfl,hq9,hb9⟩
 ·rw[decide_eq_false hx]
  have e1:IntKind.u64.wrap x=(a:Int):=by simp only[IntKind.wrap_u64];omega
  clear ha
  go_enter Tryz.func10,Tryz.ntmps10
  go_wp2_with fail
  rw[← W0.out]
  refine (CU.out _).mono ?_
  rintro e w1 ⟨v,rfl,hv,hb1⟩
  obtain ⟨A,c,w9,rfl,hw9,hrow9,hq9,hb9,q0,q1,q2,fr⟩:=HC.out false w1 v hb1 hv (fun h=>by cases h)
  have f0:=fr 0;have f1:=fr 1;have f2:=fr 2
  have HW9:=Lib.hid hw9;have HR9:=Lib.hid hrow9
  clear fr hw9 hrow9 hv
  go_wp2_with fail
  rw[← HW9.out]
  refine bodyPost_ret (v:=.agg #[.bool false,.slice A (tdg a).length c,.slice (some ⟨w1.heap.size,0,none⟩) 1 1]) (results_cell_row (p:=2) (ty:=39) Tryz.results10 _ _ w.heap.size 39 #[.bool false,.slice A (tdg a).length c,.slice (some ⟨w1.heap.size,0,none⟩) 1 1] (0,0) _ (by simp[go_sem]) HR9.out Tryz.underlying39 rfl hsz) rfl ?_
  exact ⟨_,rfl,hq9,hb9⟩
end Go.Proofs.YtjipjfoambbofaaGreatDoor
end
section
namespace Vic
open Go
def dec2 (i:Nat):Txt:=if i<10 then [UInt8.ofNat (48+i)]else [UInt8.ofNat (48+i / 10),UInt8.ofNat (48+i % 10)]
theorem dec2_is {i:Nat}(h:i<100):Lib.decDigits i=dec2 i:=by
 unfold dec2
 by_cases h1:i<10
 ·rw[if_pos h1,dec_small h1]
 ·rw[if_neg h1,dec_big (by omega),dec_small (by omega)];rfl
theorem dec2_inj {i j:Nat}(hi:i<100) (hj:j<100) (h:dec2 i=dec2 j):i=j:=by
 rw[← dec2_is hi,← dec2_is hj]at h
 exact dec_inj h
theorem fracText_int7 (z:Int):fracText (z:Rat)=(if z<0 then [45]else []) ++ Lib.decDigits z.natAbs:=by
 unfold fracText
 rw[show ((z:Rat)).num=z from rfl,show ((z:Rat)).den=1 from rfl,if_pos rfl,List.append_nil]
theorem litOf_text {q:Rat}(hn:(Lib.decDigits q.num.natAbs).length≤2000) (hd:(Lib.decDigits q.den).length≤2000) (hl:(fracText q).length≤40):litOf (fracText q)=some q:=by
 have h:=fracGood_text q hn hd
 unfold litOf
 rw[if_neg (by omega),if_pos h.1,h.2]
def intT (z:Int):Txt:=(if z<0 then [45]else []) ++ dec2 z.natAbs
theorem intT_is {z:Int}(h1 : -100<z) (h2:z<100):fracText (z:Rat)=intT z:=by
 rw[fracText_int7,dec2_is (by omega)];rfl
theorem dec2_len (i:Nat):1≤(dec2 i).length∧(dec2 i).length≤2:=by
 unfold dec2;split<;>simp
theorem intT_len (z:Int):(intT z).length≤3:=by
 have:=dec2_len z.natAbs
 unfold intT;split<;>simp<;>omega
theorem litOf_int {z:Int}(h1 : -100<z) (h2:z<100):litOf (intT z)=some (z:Rat):=by
 have e:=intT_is h1 h2
 have hl:=intT_len z
 rw[← e]at hl ⊢
 refine litOf_text ?_ ?_ (by omega)
 ·rw[show ((z:Rat)).num=z from rfl,dec2_is (by omega)]
  have:=dec2_len z.natAbs;omega
 ·rw[show ((z:Rat)).den=1 from rfl,dec2_is (by omega)]
  have:=dec2_len 1;omega
theorem litOf_one:litOf [49]=some 1:=by
 have:=litOf_int (z:=1) (by omega) (by omega)
 exact this
theorem fracText_one:fracText 1 = [49]:=by
 have:=intT_is (z:=1) (by omega) (by omega)
 exact this
def linesOf:Nat→List Txt→List LineM
 | _,[]=>[]
 | no,s :: ls=>lineOf no s ++ linesOf (no+1) ls
theorem linesOf_app:∀ (a b:List Txt) (no:Nat),linesOf no (a ++ b)=linesOf no a ++ linesOf (no+a.length) b
 | [],b,no=>by simp[linesOf]
 | s :: a,b,no=>by
   rw[List.cons_append,linesOf,linesOf,linesOf_app a b,List.append_assoc,List.length_cons,show no+1+a.length=no+(a.length+1) by omega]
theorem getFrom_good:∀ (ls:List Txt) (no:Nat) (acc:List LineM),no+ls.length≤2501→(∀ l∈ls,lookB l=0)→getFrom no ls acc=(acc ++ linesOf no ls,0,0)
 | [],no,acc,_,_=>by simp[getFrom,linesOf]
 | s :: ls,no,acc,h,hl=>by
   rw[List.length_cons]at h
   rw[getFrom,if_neg (by omega),hl s (by simp),if_neg (by simp),getFrom_good ls (no+1) _ (by omega) (fun l h=>hl l (by simp[h])),linesOf,List.append_assoc]
def textOf (ls:List Txt):Txt:=ls.flatMap fun l=>l ++ [10]
theorem textOf_app (a b:List Txt):textOf (a ++ b)=textOf a ++ textOf b:=by simp[textOf]
theorem textOf_one (l:Txt):textOf [l]=l ++ [10]:=by simp[textOf]
def OkL (l:Txt):Prop:=lookB l=0∧(10:UInt8)∉l
instance (l:Txt):Decidable (OkL l):=inferInstanceAs (Decidable (_∧_))
theorem wordsGet_text {ls:List Txt}(hl:ls.length≤2500) (h:∀ l∈ls,OkL l):wordsGet (textOf ls)=(linesOf 1 ls,0,0):=by
 have h1:=spl_lines ls [] fun l hl=>(h l hl).2
 rw[List.append_nil,show spl [] = []from rfl,List.append_nil]at h1
 unfold wordsGet textOf
 rw[h1,getFrom_good ls 1 [] (by omega) (fun l hl=>(h l hl).1),List.nil_append]
theorem coreGet_text {ls:List Txt}(hl:ls.length≤2500) (h:∀ l∈ls,OkL l):coreGet (textOf ls)=coreRun (linesOf 1 ls) CSt.zero:=by
 unfold coreGet
 rw[wordsGet_text hl h]
 rfl
theorem lineOf_sp {L:Txt}{ws:List Txt}(hf:fieldsB (32 :: L)=ws) (hne:ws≠[]) (no:Nat):lineOf no (32 :: L) = [⟨no,false,ws⟩]:=by
 unfold lineOf
 rw[hf,if_neg (by simp[hne])]
 rfl
def Goes:List LineM→CSt→CSt→Prop
 | [],st,st'=>st=st'
 | x :: A,st,st'=>(st.line x).e=0∧(st.line x).at_≠7∧Goes A (st.line x) st'
theorem coreRun_goes:∀ {A:List LineM}{st st':CSt},Goes A st st'→∀ B,coreRun (A ++ B) st=coreRun B st'
 | [],st,st',h,B=>by
   have h:st=st':=h
   rw[h,List.nil_append]
 | x :: A,st,st',h,B=>by
   obtain ⟨h1,h2,h3⟩:=(h:(st.line x).e=0∧(st.line x).at_≠7∧Goes A (st.line x) st')
   rw[List.cons_append,coreRun,if_neg (by simp[h1]),if_neg h2,coreRun_goes h3 B]
theorem Goes.trans:∀ {A B:List LineM}{a b c:CSt},Goes A a b→Goes B b c→Goes (A ++ B) a c
 | [],B,a,b,c,h,k=>by
   have h:a=b:=h
   subst h;exact k
 | x :: A,B,a,b,c,h,k=>⟨h.1,h.2.1,Goes.trans h.2.2 k⟩
theorem Goes.one {x:LineM}{st st':CSt}(h:st.line x=st') (he:st'.e=0) (ha:st'.at_≠7):Goes [x] st st':=by
 subst h;exact ⟨he,ha,rfl⟩
theorem run_fails {x:LineM}{st:CSt}(h:(st.line x).e≠0) (B:List LineM):coreRun (x :: B) st=(noCore,x.no,(st.line x).e):=by
 rw[coreRun,if_pos h]
theorem run_ends {x:LineM}{st:CSt}(h:(st.line x).e=0) (h7:(st.line x).at_=7) (B:List LineM):coreRun (x :: B) st=((st.line x).c,0,0):=by
 rw[coreRun,if_neg (by simp[h]),if_pos h7]
theorem row_new {st:CSt}(no:Nat) {s:Txt}(he:st.e=0) (hat:st.at_=2) (hn:nameB s=true) (hm:(s == markerM)=false) (hf:atT st.rows s=none) (hl:st.c.rows.length<40) :
 st.line ⟨no,false,[[76],s]⟩={ st with l:=[],rows:=(s,(st.c.rows.length:Nat)) :: st.rows,c:={ st.c with rows:=st.c.rows ++ [(⟨s,1,[],[48],[]⟩:RowM)] } }:=by
 have hk:idxT kindsM [76]=1:=by decide
 have h40:¬ (40:Int)≤(st.c.rows.length:Nat):=by omega
 simp[CSt.line,hat,CSt.row,CSt.many,CSt.fails,CSt.word,he,hk,hn,hm,hf,h40,CSt.rowEnd]
theorem col_new {st:CSt}(no:Nat) {s rn:Txt}{i:Nat}(he:st.e=0) (hat:st.at_=3) (hn:nameB s=true) (hr:(s == rhsM)=false) (hm:rn≠markerM) (hf:atT st.cols s=none) (hl:st.c.cols.length<40) (hi:atT st.rows rn=some (i:Int)) :
 st.line ⟨no,false,[s,rn,[49]]⟩={ st with l:=[],cols:=(s,(st.c.cols.length:Nat)) :: st.cols,seen:=[rn],c:={ st.c with cols:=st.c.cols ++ [(⟨s,[48],[],[48],st.integer⟩:ColM)],rows:=st.c.rows.modify i fun x=>{ x with coef:=x.coef ++ [((st.c.cols.length:Int),[49])] } } }:=by
 have h40:¬ (40:Int)≤(st.c.cols.length:Nat):=by omega
 have hi0:¬ ((i:Int)<0):=by omega
 simp[CSt.line,hat,CSt.column,CSt.many,CSt.fails,CSt.word,he,hn,hr,hm,hf,h40,CSt.pairs,CSt.pair,hi,hi0,CSt.number,litOf_one,CSt.put,fracText_one,setRowM]
theorem mark_line {st:CSt}(no:Nat) {m k:Txt}(he:st.e=0) (hat:st.at_=3) (hk:k=intorgM∨k=intendM) :
 st.line ⟨no,false,[m,markerM,k]⟩={ st with l:=[],integer:=k == intorgM,e:=if (k == intorgM) == st.integer then 5 else 0 }:=by
 have h1:(k != intorgM && k != intendM)=false:=by rcases hk with rfl|rfl<;>decide
 cases hb:((k == intorgM) == st.integer)<;>simp[CSt.line,hat,CSt.column,CSt.many,CSt.fails,CSt.word,he,CSt.marks,h1,hb]
theorem head_rhs {st:CSt}(no:Nat) (he:st.e=0) (hat:st.at_=3):st.line ⟨no,true,[rhsM]⟩={ st with l:=[],at_:=4,seen:=[] }:=by
 have hk:idxT headsM rhsM=4:=by decide
 simp[CSt.line,CSt.head,CSt.word,CSt.fails,he,hat,hk]
theorem head_end {st:CSt}(no:Nat) (he:st.e=0) (hat:st.at_=4∨st.at_=6):st.line ⟨no,true,[[69,78,68,65,84,65]]⟩={ st with l:=[],at_:=7,seen:=[] }:=by
 have hk:idxT headsM [69,78,68,65,84,65]=7:=by decide
 rcases hat with hat|hat<;>simp[CSt.line,CSt.head,CSt.word,CSt.fails,he,hat,hk]
theorem head_cols {st:CSt}(no:Nat) (he:st.e=0) (hat:st.at_=2) (ho:st.c.obj≠[]):st.line ⟨no,true,[[67,79,76,85,77,78,83]]⟩={ st with l:=[],at_:=3,seen:=[] }:=by
 have hk:idxT headsM [67,79,76,85,77,78,83]=3:=by decide
 have ho':st.c.obj.isEmpty=false:=by simpa using ho
 simp[CSt.line,CSt.head,CSt.word,CSt.fails,he,hat,hk,ho']
end Vic
end
section
namespace Go.Proofs.YtjipjfoambbofaaGreatDoor
open Go.RowKit Vic
theorem tdg_small {n:Nat}(h:n<100):(tdg n).length≤100000:=Nat.le_trans (digs_length_le (B:=10000) (by omega) (Nat.lt_of_lt_of_le h (by show 100≤10000 ^ 1;omega))) (by omega)
theorem num_text (W:World) (v:Value) (z:Int) (h1 : -100<z) (h2:z<100) (hv:RefQ W v (decide (z<0)) z.natAbs 1):Calls Tryz.prog 11 #[v] W (Keeps (.string ⟨(intT z).toArray⟩) W):=by
 have:=ref_Q_Text W v _ _ _ hv (by omega) (tdg_small (by omega)) (tdg_small (by omega))
 have e:quo (decide (z<0)) z.natAbs 1=(z:Rat):=by
  rw[quo_one]
  congr 1
  unfold sgn
  by_cases h:z<0
  ·rw[decide_eq_true h,if_pos rfl];omega
  ·rw[decide_eq_false h,if_neg (by simp)];omega
 rw[e,intT_is h1 h2]at this
 exact this
theorem law7_num (w:World) (z:Int) (h1 : -100<z) (h2:z<100):Calls Tryz.prog 7 #[.int .i64 z] w (Keeps (.string ⟨(intT z).toArray⟩) w):=by
 have CO:=Lib.hid (ref_Of w z (by omega) (by omega))
 have CT:Hid (∀ W v,RefQ W v (decide (z<0)) z.natAbs 1→Calls Tryz.prog 11 #[v] W (Keeps (.string ⟨(intT z).toArray⟩) W)):=Lib.hid fun W v hv=>num_text W v z h1 h2 hv
 clear h1 h2
 go_enter Tryz.func7,Tryz.ntmps7
 go_wp2_with fail
 refine CO.out.mono ?_
 rintro e w1 ⟨v,rfl,hv,hb1⟩
 have C2:=Lib.hid (CT.out w1 v hv)
 clear hv
 go_wp2_with fail
 refine C2.out.mono ?_
 rintro e w2 ⟨rfl,hb2⟩
 go_wp2_with fail
 go_ret
 exact ⟨rfl,below_seq hb1 hb2⟩
end Go.Proofs.YtjipjfoambbofaaGreatDoor
end
section
namespace Vic
open Go
def xN (i:Nat):Txt:=120 :: dec2 i
def nameH:Txt:=[78,65,77,69,32,65]
def rowsH:Txt:=[82,79,87,83]
def objL:Txt:=[32,78,32,111]
def colsH:Txt:=[67,79,76,85,77,78,83]
def endH:Txt:=[69,78,68,65,84,65]
def lim0:List Txt:=[nameH,rowsH,objL]
theorem atT_ne {l:List (Txt × Int)}{s t:Txt}{v:Int}(h:s≠t):atT ((s,v) :: l) t=atT l t:=by
 have:(s == t)=false:=beq_eq_false_iff_ne.2 h
 simp[atT,List.find?_cons,this]
theorem xN_ne {i j:Nat}(hi:i<100) (hj:j<100) (h:i≠j):xN i≠xN j:=fun e=>h (dec2_inj hi hj (List.cons.inj e).2)
def st3:CSt:=⟨⟨[65],[111],[],[]⟩,2,[([111],-1)],[],[],false,[],0⟩
theorem head_name (no:Nat):CSt.zero.line ⟨no,true,[[78,65,77,69],[65]]⟩=⟨⟨[65],[],[],[]⟩,1,[],[],[],false,[],0⟩:=by
 have hk:idxT headsM [78,65,77,69]=1:=by decide
 have hn:nameB [65]=true:=by decide
 simp[CSt.zero,noCore,CSt.line,CSt.head,CSt.word,CSt.fails,hk,hn]
theorem head_rows {st:CSt}(no:Nat) (he:st.e=0) (hat:st.at_=1):st.line ⟨no,true,[rowsH]⟩={ st with l:=[],at_:=2,seen:=[] }:=by
 have hk:idxT headsM rowsH=2:=by decide
 simp[CSt.line,CSt.head,CSt.word,CSt.fails,he,hat,hk]
theorem row_obj {st:CSt}(no:Nat) {s:Txt}(he:st.e=0) (hat:st.at_=2) (hn:nameB s=true) (hm:(s == markerM)=false) (hf:atT st.rows s=none) (ho:st.c.obj = []) :
 st.line ⟨no,false,[[78],s]⟩={ st with l:=[],rows:=(s,-1) :: st.rows,c:={ st.c with obj:=s } }:=by
 have hk:idxT kindsM [78]=0:=by decide
 simp[CSt.line,hat,CSt.row,CSt.many,CSt.fails,CSt.word,he,hk,hn,hm,hf,ho,CSt.rowEnd]
theorem lim0_lines:linesOf 1 lim0 = [⟨1,true,[[78,65,77,69],[65]]⟩,⟨2,true,[rowsH]⟩,⟨3,false,[[78],[111]]⟩]:=by rfl
theorem lim0_goes:Goes (linesOf 1 lim0) CSt.zero st3:=by
 rw[lim0_lines]
 refine Goes.trans (A:=[_]) (Goes.one (head_name 1) rfl (by decide)) (Goes.trans (A:=[_]) (Goes.one (head_rows 2 rfl rfl) rfl (by decide)) (Goes.one (row_obj 3 rfl rfl (by decide) (by decide) rfl rfl) rfl (by decide)))
theorem lineOf_head {L:Txt}(hl:L=colsH∨L=rhsM∨L=endH) (no:Nat):lineOf no L = [⟨no,true,[L]⟩]:=by
 rcases hl with rfl|rfl|rfl<;>rfl
theorem ok_head {L:Txt}(hl:L=colsH∨L=rhsM∨L=endH):OkL L:=by
 rcases hl with rfl|rfl|rfl<;>decide
end Vic
end
section
namespace Vic
open Go
def inL:Txt:=[32,77,32,39,77,65,82,75,69,82,39,32,39,73,78,84,79,82,71,39]
def outL:Txt:=[32,77,32,39,77,65,82,75,69,82,39,32,39,73,78,84,69,78,68,39]
def mcolL (i:Nat):Txt:=32 :: (xN i ++ [32,114,32,49])
def mkLine (i k:Nat):Txt:=if k=0 then inL else if k=1 then outL else mcolL i
def mkLines:Nat→List Nat→List Txt
 | _,[]=>[]
 | i,k :: ks=>mkLine i k :: mkLines (i+1) ks
theorem mkLines_snoc:∀ (i:Nat) (l:List Nat) (k:Nat),mkLines i (l ++ [k])=mkLines i l ++ [mkLine (i+l.length) k]
 | i,[],k=>rfl
 | i,a :: l,k=>by
   rw[List.cons_append,mkLines,mkLines_snoc (i+1) l k,mkLines,List.length_cons,List.cons_append,show i+1+l.length=i+(l.length+1) by omega]
theorem mkLines_len:∀ (i:Nat) (l:List Nat),(mkLines i l).length=l.length
 | i,[]=>rfl
 | i,a :: l=>by rw[mkLines,List.length_cons,mkLines_len,List.length_cons]
structure MkS where
 inn:Bool
 bad:Bool
 at_:Nat
 want:List Bool
def mkStep (i:Nat) (s:MkS) (k:Nat):MkS:=
 if k=0 then ⟨true,s.bad || s.inn,if s.inn && !s.bad then 6+i else s.at_,s.want⟩
 else if k=1 then ⟨false,s.bad || !s.inn,if !s.inn && !s.bad then 6+i else s.at_,s.want⟩
 else ⟨s.inn,s.bad,s.at_,s.want ++ [s.inn]⟩
def mkFold:Nat→MkS→List Nat→MkS
 | _,s,[]=>s
 | i,s,k :: ks=>mkFold (i+1) (mkStep i s k) ks
theorem mkFold_snoc:∀ (i:Nat) (s:MkS) (l:List Nat) (k:Nat),mkFold i s (l ++ [k])=mkStep (i+l.length) (mkFold i s l) k
 | i,s,[],k=>rfl
 | i,s,a :: l,k=>by
   rw[List.cons_append,mkFold,mkFold_snoc (i+1),mkFold,List.length_cons,show i+1+l.length=i+(l.length+1) by omega]
theorem mkFold_bad:∀ (l:List Nat) (i:Nat) (s:MkS),s.bad=true→(mkFold i s l).bad=true∧(mkFold i s l).at_=s.at_
 | [],i,s,h=>⟨h,rfl⟩
 | k :: l,i,s,h=>by
   have h1:(mkStep i s k).bad=true∧(mkStep i s k).at_=s.at_:=by
    unfold mkStep
    split
    ·simp[h]
    ·split<;>simp[h]
   obtain ⟨a,b⟩:=mkFold_bad l (i+1) (mkStep i s k) h1.1
   exact ⟨a,b.trans h1.2⟩
theorem mark_facts:∀ i,i<12→OkL (mcolL i)∧fieldsB (mcolL i) = [xN i,[114],[49]]∧nameB (xN i)=true∧(xN i == rhsM)=false:=by decide +kernel
theorem inL_facts:OkL inL∧OkL outL∧fieldsB inL = [[77],markerM,intorgM]∧fieldsB outL = [[77],markerM,intendM]:=by decide +kernel
structure MInv (st:CSt) (i:Nat) (s:MkS):Prop where
 e:st.e=0
 at_:st.at_=3
 zero:atT st.rows [114]=some 0
 len:st.c.cols.length≤i
 fresh:∀ j,i≤j→j<100→atT st.cols (xN j)=none
 int:st.integer=s.inn
 want:st.c.cols.map (·.int)=s.want
def markTail:List Txt:=[rhsM,endH]
theorem tail_run {st:CSt}(he:st.e=0) (hat:st.at_=3) (no:Nat):coreRun (linesOf no markTail) st=(st.c,0,0):=by
 unfold markTail
 rw[linesOf,lineOf_head (.inr (.inl rfl)),linesOf,lineOf_head (.inr (.inr rfl))]
 have g2:∀ x,Goes [⟨x,true,[rhsM]⟩] st { st with l:=[],at_:=4,seen:=[] }:=fun x=>Goes.one (head_rhs x he hat) he (by show (4:Int)≠7;decide)
 rw[coreRun_goes (g2 _),List.singleton_append]
 have e7:=fun x=>head_end (st:={ st with l:=[],at_:=4,seen:=[] }) x he (.inl rfl)
 rw[run_ends (by rw[show endH = [69,78,68,65,84,65]from rfl,e7];exact he) (by rw[show endH = [69,78,68,65,84,65]from rfl,e7]),show endH = [69,78,68,65,84,65]from rfl,e7]
def MkRight (r:CoreM × Nat × Int) (s:MkS):Prop:=if s.bad=true then r=(noCore,s.at_,5)else ∃ c,r=(c,0,0)∧c.cols.map (·.int)=s.want
theorem mark_run:∀ (ks:List Nat) (i:Nat) {st:CSt}{s:MkS},MInv st i s→s.bad=false→i+ks.length≤12→MkRight (coreRun (linesOf (6+i) (mkLines i ks ++ markTail)) st) (mkFold i s ks)
 | [],i,st,s,h,hb,_=>by
   unfold MkRight
   rw[mkFold,mkLines,List.nil_append,tail_run h.e h.at_,if_neg (by simp[hb])]
   exact ⟨_,rfl,h.want⟩
 | k :: ks,i,st,s,h,hb,hi=>by
   rw[List.length_cons]at hi
   obtain ⟨_,_,fi,fo⟩:=inL_facts
   by_cases k0:k=0∨k=1
   ·obtain ⟨w,hw,hl⟩:∃ w,(w=intorgM∧k=0∨w=intendM∧k=1)∧∀ no,lineOf no (mkLine i k) = [⟨no,false,[[77],markerM,w]⟩]:=by
     rcases k0 with rfl|rfl
     ·exact ⟨intorgM,.inl ⟨rfl,rfl⟩,fun no=>lineOf_sp fi (by simp) no⟩
     ·exact ⟨intendM,.inr ⟨rfl,rfl⟩,fun no=>lineOf_sp fo (by simp) no⟩
    have hk:(w == intorgM)=decide (k=0):=by rcases hw with ⟨rfl,rfl⟩|⟨rfl,rfl⟩<;>decide
    have hm:=mark_line (st:=st) (6+i) (m:=[77]) (k:=w) h.e h.at_ (by rcases hw with ⟨rfl,_⟩|⟨rfl,_⟩<;>simp)
    rw[mkLines,List.cons_append,linesOf,hl,mkFold,List.singleton_append]
    by_cases hbad:(decide (k=0))=s.inn
    ·have hE:(st.line ⟨6+i,false,[[77],markerM,w]⟩).e=5:=by
      rw[hm,hk,h.int,hbad];simp
     have hS:(mkStep i s k).bad=true∧(mkStep i s k).at_=6+i:=by
      unfold mkStep
      rcases hw with ⟨_,rfl⟩|⟨_,rfl⟩
      ·have:s.inn=true:=by simpa using hbad.symm
       simp[this,hb]
      ·have:s.inn=false:=by simpa using hbad.symm
       simp[this,hb]
     obtain ⟨a,b⟩:=mkFold_bad ks (i+1) _ hS.1
     unfold MkRight
     rw[if_pos a,run_fails (by rw[hE];decide),hE,b,hS.2]
    ·have hne:((w == intorgM) == st.integer)=false:=by rw[hk,h.int];exact beq_eq_false_iff_ne.2 hbad
     rw[hne]at hm
     have hS:(mkStep i s k).bad=false∧(mkStep i s k).inn=decide (k=0)∧(mkStep i s k).want=s.want:=by
      unfold mkStep
      rcases hw with ⟨_,rfl⟩|⟨_,rfl⟩
      ·have:s.inn=false:=by simpa using Ne.symm hbad
       simp[this,hb]
      ·have:s.inn=true:=by simpa using Ne.symm hbad
       simp[this,hb]
     have g1:Goes [⟨6+i,false,[[77],markerM,w]⟩] st { st with l:=[],integer:=w == intorgM,e:=if false=true then 5 else 0 }:=Goes.one hm (by simp) (by show st.at_≠7;rw[h.at_];decide)
     rw[← List.singleton_append,coreRun_goes g1]
     exact mark_run ks (i+1) ⟨rfl,h.at_,h.zero,Nat.le_succ_of_le h.len,fun j h1 h2=>h.fresh j (by omega) h2,by rw[hS.2.1];exact hk,by rw[hS.2.2];exact h.want⟩ hS.1 (by omega)
   ·obtain ⟨k1,k2⟩:k≠0∧k≠1:=⟨fun e=>k0 (.inl e),fun e=>k0 (.inr e)⟩
    obtain ⟨_,hf,hn,hr⟩:=mark_facts i (by omega)
    have hc:=col_new (st:=st) (6+i) (i:=0) h.e h.at_ hn hr (by decide) (h.fresh i (Nat.le_refl _) (by omega)) (by have:=h.len;omega) h.zero
    rw[mkLines,List.cons_append,linesOf,show mkLine i k=mcolL i by unfold mkLine;rw[if_neg k1,if_neg k2],show ∀ x,lineOf x (mcolL i) = [⟨x,false,[xN i,[114],[49]]⟩]from fun x=>lineOf_sp hf (by simp) x,mkFold]
    have hS:mkStep i s k=⟨s.inn,s.bad,s.at_,s.want ++ [s.inn]⟩:=by unfold mkStep;rw[if_neg k1,if_neg k2]
    rw[coreRun_goes (Goes.one hc h.e (by show st.at_≠7;rw[h.at_];decide)),hS]
    refine mark_run ks (i+1) ⟨h.e,h.at_,h.zero,?_,fun j h1 h2=>?_,h.int,?_⟩ hb (by omega)
    ·have:=h.len;simp;omega
    ·exact (atT_ne (xN_ne (by omega) (by omega) (by omega))).trans (h.fresh j (by omega) h2)
    ·simp[h.want,h.int]
def mark0:List Txt:=[nameH,rowsH,objL,[32,76,32,114],colsH]
def st5:CSt:=⟨⟨[65],[111],[⟨[114],1,[],[48],[]⟩],[]⟩,3,[([114],0),([111],-1)],[],[],false,[],0⟩
theorem mark0_goes:Goes (linesOf 1 mark0) CSt.zero st5:=by
 have e:linesOf 1 mark0=linesOf 1 lim0 ++ ([⟨4,false,[[76],[114]]⟩] ++ [⟨5,true,[[67,79,76,85,77,78,83]]⟩]):=by rfl
 rw[e]
 exact lim0_goes.trans (Goes.trans (A:=[_]) (Goes.one (row_new 4 rfl rfl (by decide) (by decide) rfl (by decide)) rfl (by decide)) (Goes.one (head_cols 5 rfl rfl (by decide)) rfl (by decide)))
theorem st5_inv:MInv st5 0 ⟨false,false,0,[]⟩:=⟨rfl,rfl,rfl,Nat.le_refl _,fun j _ _=>rfl,rfl,rfl⟩
def markText (ks:List Nat):Txt:=textOf (mark0 ++ (mkLines 0 ks ++ markTail))
theorem mkLines_ok:∀ (ks:List Nat) (i:Nat),i+ks.length≤12→∀ l∈mkLines i ks,OkL l
 | [],i,_,l,hl=>by cases hl
 | k :: ks,i,hi,l,hl=>by
   rw[List.length_cons]at hi
   rw[mkLines]at hl
   rcases List.mem_cons.1 hl with rfl|hl
   ·unfold mkLine
    split
    ·exact inL_facts.1
    ·split
     ·exact inL_facts.2.1
     ·exact (mark_facts i (by omega)).1
   ·exact mkLines_ok ks (i+1) (by omega) l hl
theorem mark_is {ks:List Nat}(h:ks.length≤12):MkRight (coreGet (markText ks)) (mkFold 0 ⟨false,false,0,[]⟩ ks):=by
 unfold markText
 rw[coreGet_text]
 ·rw[linesOf_app,coreRun_goes mark0_goes,show 1+mark0.length=6+0 from rfl]
  exact mark_run ks 0 st5_inv rfl (by omega)
 ·simp[mark0,markTail,mkLines_len];omega
 ·intro l hl
  rcases List.mem_append.1 hl with hl|hl
  ·have:∀ l∈mark0,OkL l:=by decide
   exact this l hl
  ·rcases List.mem_append.1 hl with hl|hl
   ·exact mkLines_ok ks 0 (by omega) l hl
   ·have:∀ l∈markTail,OkL l:=by decide
    exact this l hl
end Vic
end
