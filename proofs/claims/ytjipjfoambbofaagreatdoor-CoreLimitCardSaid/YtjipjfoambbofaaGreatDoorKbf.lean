/- Package victuallerlaw1: a fraction of the draws; the document's fractions as values. -/
import Derived.Test.YtjipjfoambbofaaGreatDoorKay
import Derived.Test.YtjipjfoambbofaaGreatDoorKaw
import Derived.Test.YtjipjfoambbofaaGreatDoorKbe
import Derived.Laws.Rows
import Derived.Laws.Tables
import Derived.Test.YtjipjfoambbofaaGreatDoorKax
import Derived.Test.YtjipjfoambbofaaGreatDoorKav
import Derived.Test.YtjipjfoambbofaaGreatDoorKao
import Derived.Deep.LoopGhost
set_option linter.unusedVariables false
set_option linter.unusedSimpArgs false
section
namespace Vic
open Go Go.RowKit
def RefQ (w:World) (v:Value) (ng:Bool) (n d:Nat):Prop:=∃ x y,v=.agg #[.bool ng,x,y]∧RefN w x n∧RefN w y d∧(ng=true→n≠0)
theorem RefQ.keep {w w':World}{v:Value}{ng:Bool}{n d:Nat}(h:RefQ w v ng n d) (hb:Below w.heap.size w w'):RefQ w' v ng n d:=by
 obtain ⟨x,y,h1,h2,h3,h4⟩:=h
 exact ⟨x,y,h1,h2.keep hb,h3.keep hb,h4⟩
theorem Ints.rowfar {k:IntKind}{w:World}{v:Value}{l:List Nat}{g:Nat}{t:TypeId}{cs:Array Value}(h:Ints k w v l) (hr:Row w g t cs) (hc:∀ (i:Nat) (x:Int),cs[i]?≠some (.int k x)) {w':World}(hO:Only g w w'):Ints k w' v l:=by
 obtain ⟨A,c,h1,h2,h3⟩:=h
 refine ⟨A,c,h1,h2,fun i hi=>?_⟩
 obtain ⟨b,o,hA,hcl⟩:=h3 i hi
 refine ⟨b,o,hA,?_⟩
 by_cases e:b=g
 ·subst e
  rw[hr.cell]at hcl
  exact absurd hcl (hc _ _)
 ·rw[hO.cell e];exact hcl
theorem NatPtr.rowfar {w:World}{v:Value}{n:Nat}{g:Nat}{t:TypeId}{cs:Array Value}(h:NatPtr w v n) (hr:Row w g t cs) (hc:∀ (i:Nat) (x:Int),cs[i]?≠some (.int .u32 x)) (h0:∀ A l c,cs[0]?≠some (.slice A l c)) {w':World}(hO:Only g w w'):NatPtr w' v n:=by
 obtain ⟨b,s,h1,h2,⟨A,c,rfl,h4,h5⟩,hbk⟩:=h
 have h3:U32s w (.slice A (dgs n).length c) (dgs n):=⟨A,c,rfl,h4,h5⟩
 by_cases e:b=g
 ·subst e
  rw[hr.cell]at h2
  exact absurd h2 (h0 _ _ _)
 ·exact ⟨b,_,h1,by rw[hO.cell e];exact h2,Ints.rowfar h3 hr hc hO,hbk.same (hO.block b e)⟩
theorem FracPtr.rowfar {w:World}{v:Value}{q:Rat}{g:Nat}{t:TypeId}{cs:Array Value}(h:FracPtr w v q) (hr:Row w g t cs) (hc:∀ (i:Nat) (x:Int),cs[i]?≠some (.int .u32 x)) (h0:∀ A l c,cs[0]?≠some (.slice A l c)) (h2:∀ a,cs[2]?≠some (.pointer a)) {w':World}(hO:Only g w w'):FracPtr w' v q:=by
 obtain ⟨b,pn,pd,e1,e2,e3,e4,e5,e6⟩:=h
 obtain ⟨bd,sd,hpd,_,_⟩:=id e6
 have hb:b≠g:=fun e=>by
  subst e
  rw[hr.cell,hpd]at e4
  exact h2 _ e4
 have hk:∀ o,w'.cell? ⟨b,o,none⟩=w.cell? ⟨b,o,none⟩:=fun o=>hO.cell hb
 refine ⟨b,pn,pd,e1,by rw[hk];exact e2,by rw[hk];exact e3,by rw[hk];exact e4,?_,e6.rowfar hr hc h0 hO⟩
 rcases e5 with e5|e5
 ·exact .inl e5
 ·exact (NatPtr.rowfar e5 hr hc h0 hO).at_
end Vic
namespace Go.Proofs.YtjipjfoambbofaaGreatDoor
open Go.RowKit Vic
set_option maxRecDepth 100000 in
set_option maxHeartbeats 4000000 in
theorem ref_Frac (w:World) (ng:Bool) (u v:Value) (n d:Nat) (hn:RefN w u n) (hd:RefN w v d) :
 Calls Tryz.prog 83 #[.bool ng,u,v] w (Gives (fun x w'=>RefQ w' x (ng && decide (n≠0)) n d) w):=by
 obtain ⟨A,c,rfl,hA⟩:=hn.open_
 obtain ⟨A2,c2,rfl,hA2⟩:=hd.open_
 have hb:Hid ((0<(tdg n).length)↔n≠0):=Lib.hid ⟨fun h e=>by rw[e,tdg_zero]at h;simp at h,fun h=>tdg_pos h⟩
 clear hn hd
 have hsz:(Tryz.prog.info? 39).map (·.size)=some 3:=by kernel_rfl
 have h01:∀ cs,Below w.heap.size w (w.alloc (.cells cs 39)):=fun cs=>(Below.refl _ _).alloc (Nat.le_refl _) _
 have HA:=Lib.hid hA;have HA2:=Lib.hid hA2;have H01:=Lib.hid h01
 clear hA hA2 h01
 cases ng
 ·go_enter Tryz.func83,Tryz.ntmps83
  go_wp2_with fail
  refine bodyPost_ret (v:=.agg #[.bool false,.slice A (tdg n).length c,.slice A2 (tdg d).length c2]) (results_cell_row (p:=6) (ty:=39) Tryz.results83 _ _ w.heap.size 39 #[.bool false,.slice A (tdg n).length c,.slice A2 (tdg d).length c2] (0,0) _ (by simp[go_sem]) (heap_alloc_new _ _) Tryz.underlying39 rfl hsz) rfl ?_
  exact ⟨_,rfl,⟨_,_,rfl,Ints.keep HA.out (H01.out _),Ints.keep HA2.out (H01.out _),fun h=>by cases h⟩,H01.out _⟩
 ·obtain ⟨bb,hbb⟩:∃ bb,bb=decide (0<(tdg n).length):=⟨_,rfl⟩
  have hbn:Hid (bb=(true && decide (n≠0))):=Lib.hid (by rw[hbb,Bool.true_and];exact decide_eq_decide.2 hb.out)
  have hbq:=hbb.symm
  clear hbb
  go_enter Tryz.func83,Tryz.ntmps83
  go_wp2_with fail
  refine bodyPost_ret (v:=.agg #[.bool bb,.slice A (tdg n).length c,.slice A2 (tdg d).length c2]) (results_cell_row (p:=6) (ty:=39) Tryz.results83 _ _ w.heap.size 39 #[.bool bb,.slice A (tdg n).length c,.slice A2 (tdg d).length c2] (0,0) _ (by simp[go_sem]) (heap_alloc_new _ _) Tryz.underlying39 rfl hsz) rfl ?_
  exact ⟨_,rfl,⟨_,_,by rw[← hbn.out],Ints.keep HA.out (H01.out _),Ints.keep HA2.out (H01.out _),fun h=>by simpa using h⟩,H01.out _⟩
end Go.Proofs.YtjipjfoambbofaaGreatDoor
end
section
namespace Vic
open Go Go.RowKit
theorem tdg_top {n:Nat}(h:n≠0):0<(tdg n).getD ((tdg n).length - 1) 0:=by
 have h1:=digs_norm (B:=10000) (by omega) n
 have h2:=tdg_pos h
 rcases Nat.eq_zero_or_pos ((tdg n).getD ((tdg n).length - 1) 0)with h3|h3
 ·exfalso
  apply h1
  show (tdg n).getLast?=some 0
  rw[List.getLast?_eq_getElem?]
  rw[List.getD_eq_getElem?_getD,List.getElem?_eq_getElem (by omega),Option.getD_some]at h3
  rw[List.getElem?_eq_getElem (by omega),h3]
 ·exact h3
theorem txt_done (n i:Nat) (hi:i+1=(tdg n).length):Lib.decDigits n=Lib.decDigits ((tdg n).getD i 0) ++ txt ((tdg n).take i):=by
 have hn:n≠0:=fun e=>by rw[e,tdg_zero]at hi;simp at hi
 have h0:=tdg_top hn
 rw[show (tdg n).length - 1=i by omega]at h0
 have hd:=dig_take (digs_dig (B:=10000) (by omega) n) i
 have h1:=dec_txt ((tdg n).take i) hd _ h0
 have hlen:((tdg n).take i).length=i:=by rw[List.length_take];omega
 have h2:=val_take_step 10000 (tdg n) i
 rw[val_take_all _ _ _ (by omega),val_digs (by omega)]at h2
 rw[hlen,← h2]at h1
 exact h1
end Vic
namespace Go.Proofs.YtjipjfoambbofaaGreatDoor
open Go.RowKit Vic
set_option maxRecDepth 100000 in
set_option maxHeartbeats 4000000 in
theorem ref_N_Text (w:World) (v:Value) (n:Nat) (h:RefN w v n) (hl:(tdg n).length≤100000) :
 Calls Tryz.prog 28 #[v] w (Keeps (.string ⟨(Lib.decDigits n).toArray⟩) w):=by
 obtain ⟨A,c,rfl,hA⟩:=h.open_
 clear h
 by_cases hn:n=0
 ·subst hn
  rw[tdg_zero]at *
  have hd:Hid (Lib.decDigits 0 = [48]):=Lib.hid (by rw[dec_small (by omega)];rfl)
  go_enter Tryz.func28,Tryz.ntmps28
  go_wp2_with fail
  go_ret
  exact ⟨by rw[hd.out];rfl,Below.refl _ _⟩
 ·have hpos:=tdg_pos hn
  have HTD:Hid (∀ i,i+1=(tdg n).length→Lib.decDigits n=Lib.decDigits ((tdg n).getD i 0) ++ txt ((tdg n).take i)):=Lib.hid (txt_done n)
  have HTOP:=Lib.hid (tdg_top hn)
  have HDG:Hid (dig 10000 (tdg n)):=Lib.hid (digs_dig (by omega) n)
  have HTT:Hid (∀ i,i<(tdg n).length→txt ((tdg n).take (i+1))=pad 4 ((tdg n).getD i 0) ++ txt ((tdg n).take i)):=Lib.hid (txt_take (tdg n))
  generalize tdg n=l at *
  obtain ⟨T,hT⟩:∃ T,T=Lib.decDigits n:=⟨_,rfl⟩
  rw[← hT]at HTD ⊢
  clear hT hn
  go_enter Tryz.func28,Tryz.ntmps28
  go_wp2_with fail
  go_loopw [4,3] (fun t s wr=>∃ (i:Nat) (bs:List UInt8),t=.int .i64 i∧i≤l.length∧s=.string ⟨bs.toArray⟩∧Hid (bs=if i<l.length then txt (l.take i)else T)∧Below w.heap.size w wr) (fun t _ _=>l.length - (intOf t).toNat)
  case atStart=>exact ⟨0,[],rfl,by omega,rfl,by show _=_;rw[if_pos hpos];rfl,Below.refl _ _⟩
  case round=>
   obtain ⟨i,bs,rfl,hi,rfl,hbs,hbr⟩:=hrel
   by_cases hlt:i<l.length
   ·obtain ⟨b1,o1,rfl,hc1⟩:=(Ints.keep hA hbr).at_ i hlt
    have hD:=dig_getD HDG.out (by omega) i
    have hbs1:=Lib.hid hbs.out
    rw[if_pos hlt]at hbs1
    have hnext:Hid (∀ k,k≠0→(i+1=l.length→0<l.getD i 0 / 10 ^ (k - 1))→(i+1=l.length→l.getD i 0 / 10 ^ k=0)→(i+1<l.length→k=4)→pad k (l.getD i 0) ++ bs=if i+1<l.length then txt (l.take (i+1))else T):=Lib.hid fun k hk h1 h2 h3=>by
     rw[hbs1.out]
     by_cases h5:i+1<l.length
     ·rw[if_pos h5,h3 h5,HTT.out i hlt]
     ·rw[if_neg h5,HTD.out i (by omega)]
      obtain ⟨k',rfl⟩:∃ k',k=k'+1:=⟨k - 1,by omega⟩
      have h6:=h1 (by omega)
      simp only[Nat.add_sub_cancel]at h6
      rw[pad_top k' _ h6 (h2 (by omega))]
    have hD0:Hid (i+1=l.length→0<l.getD i 0):=Lib.hid fun h=>by
     have:=HTOP.out
     rwa [show l.length - 1=i by omega]at this
    have hbsl:bs.length≤400000:=by
     rw[hbs1.out,txt_length,List.length_take];omega
    generalize l.getD i 0=D at *
    clear hbs
    go_wp2_with fail
    go_loopw [6,5,3] (fun t u s wr=>∃ (k d:Nat) (cs:List UInt8),t=.int .i64 k∧k≤4∧u=.int .i64 d∧Hid (d=D / 10 ^ k)∧d<10000∧s=.string ⟨cs.toArray⟩∧Hid (cs=pad k D ++ bs)∧Hid (i+1=l.length→k≠0→0<D / 10 ^ (k - 1))∧Below w.heap.size w wr) (fun t _ _ _=>4 - (intOf t).toNat)
    case atStart=>exact ⟨0,D,bs,rfl,by omega,rfl,by show _=_;simp,hD,rfl,by show _=_;rfl,fun _ h=>absurd rfl h,hbr⟩
    case round=>
     clear hbr hc1
     obtain ⟨k,d,cs,rfl,hk,rfl,hd,hd4,rfl,hcs,hk0,hbr⟩:=hrel
     have hlast:Hid (i+1=l.length→k=4∨d=0→pad k D ++ bs=T):=Lib.hid fun h1 h2=>by
      have h0:=hD0.out h1
      have hk1:k≠0:=fun e=>by
       subst e
       have:=hd.out
       simp at this
       omega
      have h5:=hnext.out k hk1 (fun _=>hk0.out h1 hk1) (fun _=>by
       rcases h2 with h2|h2
       ·rw[h2];exact Nat.div_eq_of_lt (by omega)
       ·rw[← hd.out];exact h2) (fun h=>by omega)
      rwa [if_neg (by omega)]at h5
     have hcl:cs.length≤400004:=by rw[hcs.out,List.length_append,pad_length];omega
     by_cases hk4:k<4
     ·by_cases hbrk:i+1=l.length∧d=0
      ·have hb1:((i:Int) == (l.length:Int) - 1)=true:=by rw[beq_iff_eq];omega
       obtain ⟨hb2,hb3⟩:=hbrk
       have HL:=Lib.hid (hcs.out.trans (hlast.out hb2 (.inr hb3)))
       subst hb3
       clear hlast hnext hk0 hd hcs
       go_wp2_with fail
       go_roundw
       case rel=>exact ⟨i+1,cs,by go_num,by omega,rfl,by rw[if_neg (by omega)];exact HL,hbr⟩
       case measure=>simp[intOf];omega
      ·have hb1:Hid (((i:Int) == (l.length:Int) - 1)=true→((d:Int) == 0)=false):=Lib.hid fun h=>by
        rw[beq_iff_eq]at h
        rw[beq_eq_false_iff_ne]
        omega
       have hnz:Hid (i+1=l.length→d≠0):=Lib.hid fun h1 h2=>hbrk ⟨h1,h2⟩
       obtain ⟨b,hb⟩:∃ b:UInt8,b=UInt8.ofNat (48+d % 10):=⟨_,rfl⟩
       have hbn:((48:Int)+(d:Int) % 10)=(b.toNat:Int):=by
        rw[hb,byte_dig (Nat.mod_lt _ (by omega))];omega
       have hcs2:Hid (b :: cs=pad (k+1) D ++ bs):=Lib.hid (by rw[pad_front,← hd.out,← hb,hcs.out];rfl)
       obtain ⟨d2,hd2e⟩:∃ d2,d2=d / 10:=⟨_,rfl⟩
       have hd2:Hid (d2=D / 10 ^ (k+1)):=Lib.hid (by rw[hd2e,hd.out,Nat.div_div_eq_div_mul,Nat.pow_succ])
       have hk2:Hid (i+1=l.length→k+1≠0→0<D / 10 ^ (k+1 - 1)):=Lib.hid fun h _=>by
        rw[Nat.add_sub_cancel,← hd.out]
        have:=hnz.out h
        omega
       have hcv:(convert 126 9 (.slice (some ⟨wr.heap.size,0,none⟩) 1 1)).run Tryz.prog (wr.alloc (.cells #[.int .u8 (b.toNat:Int)] 5))=.ok (.string ⟨[b].toArray⟩) (wr.alloc (.cells #[.int .u8 (b.toNat:Int)] 5)):=by
        have:=run_convert_bytes_back (P:=Tryz.prog) (wr.alloc (.cells #[.int .u8 (b.toNat:Int)] 5)) 126 9 5 ⟨wr.heap.size,0,none⟩ 1 [b] (by kernel_rfl) (by kernel_rfl) (by kernel_rfl) (fun j hj=>by
         simp only[List.length_cons,List.length_nil]at hj
         obtain rfl:j=0:=by omega
         rw[show (⟨wr.heap.size,0,none⟩:Addr).add 0=⟨wr.heap.size,0,none⟩ by simp[Addr.add]]
         exact (Row.new _ _ _).cell 0)
        exact this
       have hba:Below w.heap.size w (wr.alloc (.cells #[.int .u8 (b.toNat:Int)] 5)):=hbr.alloc hbr.size _
       have hdd:((d:Int) / 10)=((d2:Nat):Int):=by omega
       have hd10:d2<10000:=by omega
       clear hb hd2e hlast hnext hk0 hd hcs
       by_cases hlst:((i:Int) == (l.length:Int) - 1)=true
       ·have hdz:=hb1.out hlst
        go_wp2_with fail
        go_roundw
        case rel=>exact ⟨k+1,d2,b :: cs,by go_num,by omega,rfl,hd2,hd10,congrArg Value.string (bytes_app [b] cs),hcs2,hk2,hba⟩
        case measure=>simp[intOf];omega
       ·have hlf:((i:Int) == (l.length:Int) - 1)=false:=by simpa using hlst
        clear hlst
        go_wp2_with fail
        go_roundw
        case rel=>exact ⟨k+1,d2,b :: cs,by go_num,by omega,rfl,hd2,hd10,congrArg Value.string (bytes_app [b] cs),hcs2,hk2,hba⟩
        case measure=>simp[intOf];omega
     ·obtain rfl:k=4:=by omega
      have HL:Hid (cs=if i+1<l.length then txt (l.take (i+1))else T):=Lib.hid (by
       rw[hcs.out]
       exact hnext.out 4 (by omega) (fun h=>hk0.out h (by omega)) (fun _=>Nat.div_eq_of_lt (by omega)) (fun _=>rfl))
      clear hlast hnext hk0 hd hcs
      go_wp2_with fail
      go_roundw
      case rel=>exact ⟨i+1,cs,by go_num,by omega,rfl,HL,hbr⟩
      case measure=>simp[intOf];omega
   ·obtain rfl:i=l.length:=by omega
    have hbs1:=Lib.hid hbs.out
    rw[if_neg (by omega)]at hbs1
    clear hbs
    go_wp2_with fail
    go_ret
    exact ⟨by rw[← hbs1.out];rfl,hbr⟩
end Go.Proofs.YtjipjfoambbofaaGreatDoor
end
section
namespace Vic
open Go Go.RowKit
theorem quo_text {ng:Bool}{n d:Nat}(hd:d≠0) (hs:ng=true→n≠0) :
 fracText (quo ng n d)=(if ng then [45]else []) ++ Lib.decDigits (n / Nat.gcd n d) ++ (if d / Nat.gcd n d=1 then []else 47 :: Lib.decDigits (d / Nat.gcd n d)):=by
 refine fracText_eq ng _ _ (quo_num hd) (fun h=>?_) (quo_den hd)
 intro e
 have h1:=Nat.gcd_dvd_left n d
 exact hs h (by rw[← Nat.div_mul_cancel h1,e,Nat.zero_mul])
theorem dec_len_tdg {n L:Nat}(h:(tdg n).length≤L):(Lib.decDigits n).length≤4*L+1:=by
 refine dec_len (Nat.lt_of_lt_of_le (lt_pow_digs_length (B:=10000) (by omega) n) ?_)
 have h1:(10000:Nat) ^ (tdg n).length≤10000 ^ L:=Nat.pow_le_pow_right (by omega) h
 have h2:(10000:Nat) ^ L=10 ^ (4*L):=by rw[show (10000:Nat)=10 ^ 4 by rfl,← Nat.pow_mul]
 have h3:(10:Nat) ^ (4*L)≤10 ^ (4*L+1):=Nat.pow_le_pow_right (by omega) (by omega)
 show 10000 ^ (tdg n).length≤_
 omega
theorem tdg_one:tdg 1 = [1]:=tdg_small (by omega) (by omega)
theorem RefQ.open_ {w:World}{v:Value}{ng:Bool}{n d:Nat}(h:RefQ w v ng n d) :
 ∃ A1 c1 A2 c2,v=.agg #[.bool ng,.slice A1 (tdg n).length c1,.slice A2 (tdg d).length c2]∧RefN w (.slice A1 (tdg n).length c1) n∧RefN w (.slice A2 (tdg d).length c2) d∧(ng=true→n≠0):=by
 obtain ⟨x,y,rfl,hx,hy,hs⟩:=h
 obtain ⟨A1,c1,rfl,h1⟩:=hx.open_
 obtain ⟨A2,c2,rfl,h2⟩:=hy.open_
 exact ⟨A1,c1,A2,c2,rfl,h1,h2,hs⟩
theorem qrow_far (ng:Bool) (a b:Value) (ha:∀ k x,a≠.int k x) (hb:∀ k x,b≠.int k x) (k:IntKind) (i:Nat) (x:Int):(#[.bool ng,a,b]:Array Value)[i]?≠some (.int k x):=by
 match i with
 | 0=>simp
 | 1=>simpa using ha k x
 | 2=>simpa using hb k x
 | i+3=>simp
end Vic
namespace Go.Proofs.YtjipjfoambbofaaGreatDoor
open Go.RowKit Vic
set_option maxRecDepth 100000 in
set_option maxHeartbeats 4000000 in
theorem ref_Q_Low (w:World) (v:Value) (ng:Bool) (n d:Nat) (h:RefQ w v ng n d) (hd:d≠0) (hnl:(tdg n).length≤100000) (hdl:(tdg d).length≤100000) :
 Calls Tryz.prog 27 #[v] w (Gives (fun x w'=>RefQ w' x ng (n / Nat.gcd n d) (d / Nat.gcd n d)) w):=by
 obtain ⟨A1,c1,A2,c2,rfl,hx,hy,hs⟩:=h.open_
 obtain ⟨G,hG⟩:∃ G,G=Nat.gcd n d:=⟨_,rfl⟩
 have hG0:G≠0:=by rw[hG];exact Nat.ne_of_gt (Nat.gcd_pos_of_pos_right _ (by omega))
 have hGl:(tdg G).length≤100000:=by rw[hG];exact Nat.le_trans (tdg_le (Nat.gcd_le_right _ (by omega))) hdl
 have CG:Hid (∀ W,Below w.heap.size w W→Calls Tryz.prog 81 #[.slice A1 (tdg n).length c1,.slice A2 (tdg d).length c2] W (Gives (fun x w'=>RefN w' x G) W)):=Lib.hid fun W hW=>by
  rw[hG];exact ref_Gcd W _ _ n d (hx.keep hW) (hy.keep hW) hnl hdl
 have hne:(ng && decide (n / G≠0))=ng:=by
  cases ng
  ·rfl
  ·have h1:=Nat.gcd_dvd_left n d
   rw[← hG]at h1
   have h2:n / G≠0:=fun e=>hs rfl (by rw[← Nat.div_mul_cancel h1,e,Nat.zero_mul])
   simp[h2]
 rw[← hG]
 have HX:=Lib.hid hx;have HY:=Lib.hid hy;have HN:=Lib.hid hne
 obtain ⟨w0,hw0⟩:∃ w0,w0=(w.alloc (.cells #[.bool ng,.slice A1 (tdg n).length c1,.slice A2 (tdg d).length c2] 39)).alloc (.cells #[.bool false,.slice none 0 0,.slice none 0 0] 39):=⟨_,rfl⟩
 have r1:Row w0 w.heap.size 39 #[.bool ng,.slice A1 (tdg n).length c1,.slice A2 (tdg d).length c2]:=by rw[hw0];exact (Row.new _ _ _).alloc _
 have r2:Row w0 (w.heap.size+1) 39 #[.bool false,.slice none 0 0,.slice none 0 0]:=by
  rw[hw0]
  have h:=Row.new (w.alloc (.cells #[.bool ng,.slice A1 (tdg n).length c1,.slice A2 (tdg d).length c2] 39)) 39 #[.bool false,.slice none 0 0,.slice none 0 0]
  simpa using h
 have b0:Below w.heap.size w w0:=by rw[hw0];exact ((Below.refl _ _).alloc (Nat.le_refl _) _).alloc (by simp) _
 have R1:=Lib.hid r1;have R2:=Lib.hid r2;have W0:=Lib.hid hw0
 clear hx hy hne hs hG h r1 r2 hw0
 go_enter Tryz.func27,Tryz.ntmps27
 go_wp2_with fail
 rw[← W0.out]
 refine (CG.out _ b0).mono ?_
 rintro e w1 ⟨g,rfl,hg,hb1⟩
 have B1:=below_seq b0 hb1
 have CD1:=Lib.hid (ref_Div w1 _ g n G (HX.out.keep B1) hg hnl hGl hG0)
 have HGv:=Lib.hid hg
 have k1:=(Row.keep R1.out hb1).cell 1
 clear CG hg
 go_wp2_with fail
 refine CD1.out.mono ?_
 rintro e w2 ⟨q2,r2,rfl,hq2,_,hb2⟩
 have B2:=below_seq B1 hb2
 have CD2:=Lib.hid (ref_Div w2 _ g d G (HY.out.keep B2) (HGv.out.keep hb2) hdl hGl hG0)
 have HQ2:=Lib.hid hq2
 have k2:=(Row.keep R1.out (below_seq hb1 hb2)).cell 2
 clear CD1 hq2 k1
 go_wp2_with fail
 refine CD2.out.mono ?_
 rintro e w3 ⟨q3,r3,rfl,hq3,_,hb3⟩
 have CF:=ref_Frac w3 ng q2 q3 (n / G) (d / G) (HQ2.out.keep hb3) hq3
 rw[HN.out]at CF
 have CF':=Lib.hid CF
 have B3:=below_seq B2 hb3
 have y3:=below_seq hb1 (below_seq hb2 hb3)
 have k3:=(Row.keep R1.out y3).cell 0
 clear CD2 hq3 CF k2
 go_wp2_with fail
 refine CF'.out.mono ?_
 rintro e w4 ⟨z,rfl,hz,hb4⟩
 obtain ⟨A3,c3,A4,c4,rfl,hx4,hy4,hs4⟩:=hz.open_
 have hrow:=Row.keep R2.out (below_seq y3 hb4)
 have B4:=below_seq B3 hb4
 obtain ⟨w9,hw9⟩:∃ w9,w9=((w4.setCell ⟨w.heap.size+1,0,none⟩ (.bool ng)).setCell ⟨w.heap.size+1,1,none⟩ (.slice A3 (tdg (n / G)).length c3)).setCell ⟨w.heap.size+1,2,none⟩ (.slice A4 (tdg (d / G)).length c4):=⟨_,rfl⟩
 have hO:Only (w.heap.size+1) w4 w9:=by rw[hw9];exact (((Only.refl _ _).setCell 0 _).setCell 1 _).setCell 2 _
 have hcs:=qrow_far false (.slice none 0 0) (.slice none 0 0) (fun _ _ h=>by cases h) (fun _ _ h=>by cases h)
 have K8:=Lib.hid (Ints.rowfar hx4 hrow (hcs _) hO)
 have K9:=Lib.hid (Ints.rowfar hy4 hrow (hcs _) hO)
 have KB:Below w.heap.size w w9:=B4.trans (hO.below (Nat.le_succ _))
 have KR:Hid (w9.heap[w.heap.size+1]?=some (.cells #[.bool ng,.slice A3 (tdg (n / G)).length c3,.slice A4 (tdg (d / G)).length c4] 39 (0,0))):=Lib.hid (by
  rw[hw9]
  exact Row.set (Row.set (Row.set hrow 0 (.bool ng)) 1 _) 2 _)
 have hsz:(Tryz.prog.info? 39).map (·.size)=some 3:=by kernel_rfl
 have q0:=hrow.cell 0;have q1:=hrow.cell 1;have q2:=hrow.cell 2
 have f0:=hrow.free 0;have f1:=hrow.free 1;have f2:=hrow.free 2
 have HW9:=Lib.hid hw9
 clear hx4 hy4 CF' hrow hcs hO hw9 k3 hz
 go_wp2_with fail
 rw[← HW9.out]
 refine bodyPost_ret (v:=.agg #[.bool ng,.slice A3 (tdg (n / G)).length c3,.slice A4 (tdg (d / G)).length c4]) (results_cell_row (p:=2) (ty:=39) Tryz.results27 _ _ (w.heap.size+1) 39 #[.bool ng,.slice A3 (tdg (n / G)).length c3,.slice A4 (tdg (d / G)).length c4] (0,0) _ (by simp[go_sem]) KR.out Tryz.underlying39 rfl hsz) rfl ?_
 exact ⟨_,rfl,⟨_,_,rfl,K8.out,K9.out,hs4⟩,KB⟩
set_option maxRecDepth 100000 in
set_option maxHeartbeats 4000000 in
theorem ref_Q_Text (w:World) (v:Value) (ng:Bool) (n d:Nat) (h:RefQ w v ng n d) (hd:d≠0) (hnl:(tdg n).length≤100000) (hdl:(tdg d).length≤100000) :
 Calls Tryz.prog 11 #[v] w (Keeps (.string ⟨(fracText (quo ng n d)).toArray⟩) w):=by
 obtain ⟨A1,c1,A2,c2,rfl,hx,hy,hs⟩:=h.open_
 rw[quo_text hd hs]
 have CL:Hid (∀ W,Below w.heap.size w W→Calls Tryz.prog 27 #[.agg #[.bool ng,.slice A1 (tdg n).length c1,.slice A2 (tdg d).length c2]] W (Gives (fun x w'=>RefQ w' x ng (n / Nat.gcd n d) (d / Nat.gcd n d)) W)):=Lib.hid fun W hW=>ref_Q_Low W _ ng n d (h.keep hW) hd (by omega) (by omega)
 obtain ⟨G,hG⟩:∃ G,G=Nat.gcd n d:=⟨_,rfl⟩
 rw[← hG]at CL ⊢
 have hN:(tdg (n / G)).length≤100000:=Nat.le_trans (tdg_le (Nat.div_le_self _ _)) hnl
 have hD:(tdg (d / G)).length≤100000:=Nat.le_trans (tdg_le (Nat.div_le_self _ _)) hdl
 have hd1:d / G≠0:=by
  have h1:=Nat.gcd_dvd_right n d
  rw[← hG]at h1
  exact fun e=>hd (by rw[← Nat.div_mul_cancel h1,e,Nat.zero_mul])
 obtain ⟨p,hp⟩:∃ p,p=n / G:=⟨_,rfl⟩
 obtain ⟨q,hq⟩:∃ q,q=d / G:=⟨_,rfl⟩
 rw[← hp]at CL hN ⊢
 rw[← hq]at CL hD hd1 ⊢
 obtain ⟨w0,hw0⟩:∃ w0,w0=w.alloc (.cells #[.bool ng,.slice A1 (tdg n).length c1,.slice A2 (tdg d).length c2] 39):=⟨_,rfl⟩
 have r1:Row w0 w.heap.size 39 #[.bool ng,.slice A1 (tdg n).length c1,.slice A2 (tdg d).length c2]:=by rw[hw0];exact Row.new _ _ _
 have b0:Below w.heap.size w w0:=by rw[hw0];exact (Below.refl _ _).alloc (Nat.le_refl _) _
 have hsz:(Tryz.prog.info? 39).map (·.size)=some 3:=by kernel_rfl
 have R1:=Lib.hid r1;have W0:=Lib.hid hw0;have HS:=Lib.hid hs
 obtain ⟨X,hX⟩:∃ X,X=(if ng then [45]else []) ++ Lib.decDigits p ++ (if q=1 then []else 47 :: Lib.decDigits q):=⟨_,rfl⟩
 rw[← hX]
 have HXX:=Lib.hid hX
 clear hs hG hp hq hx hy h r1 hw0 hX
 go_enter Tryz.func11,Tryz.ntmps11
 go_wp2_with fail
 rw[← W0.out]
 refine (CL.out _ b0).mono ?_
 rintro e w1 ⟨z,rfl,hz,hb1⟩
 obtain ⟨A3,c3,A4,c4,rfl,hx,hy,hs3⟩:=hz.open_
 have hrow:=Row.keep R1.out hb1
 obtain ⟨w2,hw2⟩:∃ w2,w2=((w1.setCell ⟨w.heap.size,0,none⟩ (.bool ng)).setCell ⟨w.heap.size,1,none⟩ (.slice A3 (tdg p).length c3)).setCell ⟨w.heap.size,2,none⟩ (.slice A4 (tdg q).length c4):=⟨_,rfl⟩
 have hO:Only w.heap.size w1 w2:=by rw[hw2];exact (((Only.refl _ _).setCell 0 _).setCell 1 _).setCell 2 _
 have hcs:=qrow_far ng (.slice A1 (tdg n).length c1) (.slice A2 (tdg d).length c2) (fun _ _ h=>by cases h) (fun _ _ h=>by cases h)
 have K8:=Lib.hid (Ints.rowfar hx hrow (hcs _) hO)
 have K9:=Lib.hid (Ints.rowfar hy hrow (hcs _) hO)
 have KB:Below w.heap.size w w2:=(below_seq b0 hb1).trans (hO.below (Nat.le_refl _))
 have KR0:Row w2 w.heap.size 39 #[.bool ng,.slice A3 (tdg p).length c3,.slice A4 (tdg q).length c4]:=by
  rw[hw2]
  exact Row.set (Row.set (Row.set hrow 0 (.bool ng)) 1 _) 2 _
 have KR:=Lib.hid KR0
 have q0:=hrow.cell 0;have q1:=hrow.cell 1;have q2:=hrow.cell 2
 have f0:=hrow.free 0;have f1:=hrow.free 1;have f2:=hrow.free 2
 have g0:=KR0.cell 0;have g1:=KR0.cell 1;have g2:=KR0.cell 2
 rw[hw2]at g0 g1 g2
 have HW2:=Lib.hid hw2
 have CT:=Lib.hid (ref_N_Text w2 _ p K8.out hN)
 clear hx hy CL hrow hcs hO hw2 hz KR0
 go_wp2_with fail
 rw[← HW2.out]
 refine CT.out.mono ?_
 rintro e w5 ⟨rfl,hb5⟩
 have row5:=Row.keep KR.out hb5
 have B5:=KB.trans (hb5.mono KB.size)
 obtain ⟨w6,hw6⟩:∃ w6,w6=w5.alloc (.cells #[.int .i64 1] 3):=⟨_,rfl⟩
 have h56:Below w5.heap.size w5 w6:=by rw[hw6];exact (Below.refl _ _).alloc (Nat.le_refl _) _
 have h26:=below_seq hb5 h56
 have hone:RefN w6 (.slice (some ⟨w5.heap.size,0,none⟩) 1 1) 1:=ref_one (d:=1) (by rw[hw6];exact Row.new _ _ _) (by omega) (by omega)
 have CC0:=ref_Cmp w6 _ _ q 1 (RefN.keep K9.out h26) hone (by omega) (by rw[tdg_one];simp)
 have CT2:=Lib.hid (ref_N_Text w6 _ q (RefN.keep K9.out h26) hD)
 have row6:=Row.keep row5 h56
 have B6:=B5.trans (h56.mono B5.size)
 have k50:=row5.cell 0;have k52:=row5.cell 2
 have k62:=row6.cell 2
 have HW6:=Lib.hid hw6
 clear q0 q1 q2 f0 f1 f2 g0 g1 g2 HW2 CT row5 row6 hone hw6 h26 K8 K9 KR KB R1 W0 hs3
 by_cases hq1:q=1
 case' pos=>
  rw[cmpI_eq hq1]at CC0
  have CC:=Lib.hid CC0
  have HX2:Hid (X=(if ng then [45]else []) ++ Lib.decDigits p):=Lib.hid (by rw[HXX.out,if_pos hq1,List.append_nil])
 case' neg=>
  rw[cmpI_gt (show 1<q by omega)]at CC0
  have CC:=Lib.hid CC0
  have HX2:Hid (X=(if ng then [45]else []) ++ Lib.decDigits p ++ 47 :: Lib.decDigits q):=Lib.hid (by rw[HXX.out,if_neg hq1])
 all_goals
  obtain ⟨P,hP⟩:∃ P,P=Lib.decDigits p:=⟨_,rfl⟩
  obtain ⟨D,hD2⟩:∃ D,D=Lib.decDigits q:=⟨_,rfl⟩
  have hPl:P.length≤400001:=by rw[hP];exact dec_len_tdg hN
  have hDl:D.length≤400001:=by rw[hD2];exact dec_len_tdg hD
  rw[← hP]at HX2 ⊢
  try rw[← hD2]at HX2
  rw[← hD2]at CT2
  clear CC0 HXX hP hD2 hq1
  have ea:∀ s:List UInt8,(⟨#[45]⟩ ++ ⟨s.toArray⟩:ByteArray)=⟨((45:UInt8) :: s).toArray⟩:=fun s=>bytes_app [45] s
  have eb:∀ s:List UInt8,(⟨#[47]⟩ ++ ⟨s.toArray⟩:ByteArray)=⟨((47:UInt8) :: s).toArray⟩:=fun s=>bytes_app [47] s
  cases ng
  all_goals
   go_wp2_with fail
   rw[← HW6.out]
   refine CC.out.mono ?_
   rintro e w' ⟨rfl,rfl⟩
   go_wp2_with fail
 all_goals first
  | (refine CT2.out.mono ?_
     rintro e w7 ⟨rfl,hb7⟩
     go_wp2_with fail
     go_ret
     exact ⟨by rw[HX2.out];simp[eb,bytes_app],below_seq B6 hb7⟩)
  | (go_ret
     exact ⟨by rw[HX2.out];simp,B6⟩)
set_option maxRecDepth 100000 in
set_option maxHeartbeats 4000000 in
theorem ref_Of (w:World) (x:Int) (h1 : -9223372036854775808≤x) (h2:x≤9223372036854775807) :
 Calls Tryz.prog 10 #[.int .i64 x] w (Gives (fun v w'=>RefQ w' v (decide (x<0)) x.natAbs 1) w):=by
 obtain ⟨a,ha⟩:∃ a,a=x.natAbs:=⟨_,rfl⟩
 rw[← ha]
 have ha2:a<18446744073709551616:=by omega
 have CU:=Lib.hid (fun wr=>ref_OfU wr a ha2)
 obtain ⟨w0,hw0⟩:∃ w0,w0=w.alloc (.cells #[.bool false,.slice none 0 0,.slice none 0 0] 39):=⟨_,rfl⟩
 have r1:Row w0 w.heap.size 39 #[.bool false,.slice none 0 0,.slice none 0 0]:=by rw[hw0];exact Row.new _ _ _
 have b0:Below w.heap.size w w0:=by rw[hw0];exact (Below.refl _ _).alloc (Nat.le_refl _) _
 have hsz:(Tryz.prog.info? 39).map (·.size)=some 3:=by kernel_rfl
 have R1:=Lib.hid r1;have W0:=Lib.hid hw0
 clear r1 hw0
 have hclose:∀ (ng:Bool) (w1:World) (v:Value),Below w0.heap.size w0 w1→RefN w1 v a→(ng=true→a≠0)→∃ A c w9,v=.slice A (tdg a).length c ∧
  w9=((((w1.alloc (.cells #[.int .i64 1] 3)).setCell ⟨w.heap.size,0,none⟩ (.bool ng)).setCell ⟨w.heap.size,1,none⟩ (.slice A (tdg a).length c)).setCell ⟨w.heap.size,2,none⟩ (.slice (some ⟨w1.heap.size,0,none⟩) 1 1)) ∧
  w9.heap[w.heap.size]?=some (.cells #[.bool ng,.slice A (tdg a).length c,.slice (some ⟨w1.heap.size,0,none⟩) 1 1] 39 (0,0)) ∧
  RefQ w9 (.agg #[.bool ng,.slice A (tdg a).length c,.slice (some ⟨w1.heap.size,0,none⟩) 1 1]) ng a 1∧Below w.heap.size w w9 ∧
  (w1.alloc (.cells #[.int .i64 1] 3)).cell? ⟨w.heap.size,0,none⟩=some (.bool false)∧(w1.alloc (.cells #[.int .i64 1] 3)).cell? ⟨w.heap.size,1,none⟩=some (.slice none 0 0)∧(w1.alloc (.cells #[.int .i64 1] 3)).cell? ⟨w.heap.size,2,none⟩=some (.slice none 0 0) ∧
  (∀ i,(w1.alloc (.cells #[.int .i64 1] 3)).frozen? ⟨w.heap.size,i,none⟩=false):=by
  intro ng w1 v hb1 hv hs
  obtain ⟨A,c,rfl,hA⟩:=hv.open_
  obtain ⟨w2,hw2⟩:∃ w2,w2=w1.alloc (.cells #[.int .i64 1] 3):=⟨_,rfl⟩
  have h12:Below w1.heap.size w1 w2:=by rw[hw2];exact (Below.refl _ _).alloc (Nat.le_refl _) _
  have hone:RefN w2 (.slice (some ⟨w1.heap.size,0,none⟩) 1 1) 1:=ref_one (d:=1) (by rw[hw2];exact Row.new _ _ _) (by omega) (by omega)
  have y2:=below_seq hb1 h12
  have hrow:=Row.keep R1.out y2
  rw[← hw2]
  obtain ⟨w9,hw9⟩:∃ w9,w9=((w2.setCell ⟨w.heap.size,0,none⟩ (.bool ng)).setCell ⟨w.heap.size,1,none⟩ (.slice A (tdg a).length c)).setCell ⟨w.heap.size,2,none⟩ (.slice (some ⟨w1.heap.size,0,none⟩) 1 1):=⟨_,rfl⟩
  have hO:Only w.heap.size w2 w9:=by rw[hw9];exact (((Only.refl _ _).setCell 0 _).setCell 1 _).setCell 2 _
  have hcs:=qrow_far false (.slice none 0 0) (.slice none 0 0) (fun _ _ h=>by cases h) (fun _ _ h=>by cases h)
  refine ⟨A,c,w9,rfl,hw9,by rw[hw9];exact Row.set (Row.set (Row.set hrow 0 (.bool ng)) 1 _) 2 _,⟨_,_,rfl,Ints.rowfar (Ints.keep hA h12) hrow (hcs _) hO,?_,hs⟩,(below_seq b0 y2).trans (hO.below (Nat.le_refl _)),hrow.cell 0,hrow.cell 1,hrow.cell 2,fun i=>hrow.free i⟩
  exact Ints.rowfar hone hrow (hcs _) hO
 have HC:=Lib.hid hclose
 clear hclose
 by_cases hx:x<0
 ·rw[decide_eq_true hx]
  have e1 : -(x+1)+1=(a:Int):=by omega
  have ha0:a≠0:=by omega
  clear ha
  go_enter Tryz.func10,Tryz.ntmps10
  go_wp2_with fail
  rw[← W0.out]
  refine (CU.out _).mono ?_
  rintro e w1 ⟨v,rfl,hv,hb1⟩
  obtain ⟨A,c,w9,rfl,hw9,hrow9,hq9,hb9,q0,q1,q2,fr⟩:=HC.out true w1 v hb1 hv (fun _=>ha0)
  have f0:=fr 0;have f1:=fr 1;have f2:=fr 2
  have HW9:=Lib.hid hw9;have HR9:=Lib.hid hrow9
  clear fr hw9 hrow9 hv
  go_wp2_with fail
  rw[← HW9.out]
  refine bodyPost_ret (v:=.agg #[.bool true,.slice A (tdg a).length c,.slice (some ⟨w1.heap.size,0,none⟩) 1 1]) (results_cell_row (p:=2) (ty:=39) Tryz.results10 _ _ w.heap.size 39 #[.bool true,.slice A (tdg a).length c,.slice (some ⟨w1.heap.size,0,none⟩) 1 1] (0,0) _ (by simp[go_sem]) HR9.out Tryz.underlying39 rfl hsz) rfl ?_
  exact ⟨_,rfl,hq9,hb9⟩
 ·rw[decide_eq_false hx]
  have e1:IntKind.u64.wrap x=(a:Int):=by simp only[IntKind.wrap_u64];omega
  clear ha
  go_enter Tryz.func10,Tryz.ntmps10
  go_wp2_with fail
  rw[← W0.out]
  refine (CU.out _).mono ?_
  rintro e w1 ⟨v,rfl,hv,hb1⟩
  obtain ⟨A,c,w9,rfl,hw9,hrow9,hq9,hb9,q0,q1,q2,fr⟩:=HC.out false w1 v hb1 hv (fun h=>by cases h)
  have f0:=fr 0;have f1:=fr 1;have f2:=fr 2
  have HW9:=Lib.hid hw9;have HR9:=Lib.hid hrow9
  clear fr hw9 hrow9 hv
  go_wp2_with fail
  rw[← HW9.out]
  refine bodyPost_ret (v:=.agg #[.bool false,.slice A (tdg a).length c,.slice (some ⟨w1.heap.size,0,none⟩) 1 1]) (results_cell_row (p:=2) (ty:=39) Tryz.results10 _ _ w.heap.size 39 #[.bool false,.slice A (tdg a).length c,.slice (some ⟨w1.heap.size,0,none⟩) 1 1] (0,0) _ (by simp[go_sem]) HR9.out Tryz.underlying39 rfl hsz) rfl ?_
  exact ⟨_,rfl,hq9,hb9⟩
end Go.Proofs.YtjipjfoambbofaaGreatDoor
end
section
namespace Vic
open Go
def dec2 (i:Nat):Txt:=if i<10 then [UInt8.ofNat (48+i)]else [UInt8.ofNat (48+i / 10),UInt8.ofNat (48+i % 10)]
theorem dec2_is {i:Nat}(h:i<100):Lib.decDigits i=dec2 i:=by
 unfold dec2
 by_cases h1:i<10
 ·rw[if_pos h1,dec_small h1]
 ·rw[if_neg h1,dec_big (by omega),dec_small (by omega)];rfl
theorem dec2_inj {i j:Nat}(hi:i<100) (hj:j<100) (h:dec2 i=dec2 j):i=j:=by
 rw[← dec2_is hi,← dec2_is hj]at h
 exact dec_inj h
theorem fracText_int7 (z:Int):fracText (z:Rat)=(if z<0 then [45]else []) ++ Lib.decDigits z.natAbs:=by
 unfold fracText
 rw[show ((z:Rat)).num=z from rfl,show ((z:Rat)).den=1 from rfl,if_pos rfl,List.append_nil]
theorem litOf_text {q:Rat}(hn:(Lib.decDigits q.num.natAbs).length≤2000) (hd:(Lib.decDigits q.den).length≤2000) (hl:(fracText q).length≤40):litOf (fracText q)=some q:=by
 have h:=fracGood_text q hn hd
 unfold litOf
 rw[if_neg (by omega),if_pos h.1,h.2]
def intT (z:Int):Txt:=(if z<0 then [45]else []) ++ dec2 z.natAbs
theorem intT_is {z:Int}(h1 : -100<z) (h2:z<100):fracText (z:Rat)=intT z:=by
 rw[fracText_int7,dec2_is (by omega)];rfl
theorem dec2_len (i:Nat):1≤(dec2 i).length∧(dec2 i).length≤2:=by
 unfold dec2;split<;>simp
theorem intT_len (z:Int):(intT z).length≤3:=by
 have:=dec2_len z.natAbs
 unfold intT;split<;>simp<;>omega
theorem litOf_int {z:Int}(h1 : -100<z) (h2:z<100):litOf (intT z)=some (z:Rat):=by
 have e:=intT_is h1 h2
 have hl:=intT_len z
 rw[← e]at hl ⊢
 refine litOf_text ?_ ?_ (by omega)
 ·rw[show ((z:Rat)).num=z from rfl,dec2_is (by omega)]
  have:=dec2_len z.natAbs;omega
 ·rw[show ((z:Rat)).den=1 from rfl,dec2_is (by omega)]
  have:=dec2_len 1;omega
theorem litOf_one:litOf [49]=some 1:=by
 have:=litOf_int (z:=1) (by omega) (by omega)
 exact this
theorem fracText_one:fracText 1 = [49]:=by
 have:=intT_is (z:=1) (by omega) (by omega)
 exact this
def linesOf:Nat→List Txt→List LineM
 | _,[]=>[]
 | no,s :: ls=>lineOf no s ++ linesOf (no+1) ls
theorem linesOf_app:∀ (a b:List Txt) (no:Nat),linesOf no (a ++ b)=linesOf no a ++ linesOf (no+a.length) b
 | [],b,no=>by simp[linesOf]
 | s :: a,b,no=>by
   rw[List.cons_append,linesOf,linesOf,linesOf_app a b,List.append_assoc,List.length_cons,show no+1+a.length=no+(a.length+1) by omega]
theorem getFrom_good:∀ (ls:List Txt) (no:Nat) (acc:List LineM),no+ls.length≤2501→(∀ l∈ls,lookB l=0)→getFrom no ls acc=(acc ++ linesOf no ls,0,0)
 | [],no,acc,_,_=>by simp[getFrom,linesOf]
 | s :: ls,no,acc,h,hl=>by
   rw[List.length_cons]at h
   rw[getFrom,if_neg (by omega),hl s (by simp),if_neg (by simp),getFrom_good ls (no+1) _ (by omega) (fun l h=>hl l (by simp[h])),linesOf,List.append_assoc]
def textOf (ls:List Txt):Txt:=ls.flatMap fun l=>l ++ [10]
theorem textOf_app (a b:List Txt):textOf (a ++ b)=textOf a ++ textOf b:=by simp[textOf]
theorem textOf_one (l:Txt):textOf [l]=l ++ [10]:=by simp[textOf]
def OkL (l:Txt):Prop:=lookB l=0∧(10:UInt8)∉l
instance (l:Txt):Decidable (OkL l):=inferInstanceAs (Decidable (_∧_))
theorem wordsGet_text {ls:List Txt}(hl:ls.length≤2500) (h:∀ l∈ls,OkL l):wordsGet (textOf ls)=(linesOf 1 ls,0,0):=by
 have h1:=spl_lines ls [] fun l hl=>(h l hl).2
 rw[List.append_nil,show spl [] = []from rfl,List.append_nil]at h1
 unfold wordsGet textOf
 rw[h1,getFrom_good ls 1 [] (by omega) (fun l hl=>(h l hl).1),List.nil_append]
theorem coreGet_text {ls:List Txt}(hl:ls.length≤2500) (h:∀ l∈ls,OkL l):coreGet (textOf ls)=coreRun (linesOf 1 ls) CSt.zero:=by
 unfold coreGet
 rw[wordsGet_text hl h]
 rfl
theorem lineOf_sp {L:Txt}{ws:List Txt}(hf:fieldsB (32 :: L)=ws) (hne:ws≠[]) (no:Nat):lineOf no (32 :: L) = [⟨no,false,ws⟩]:=by
 unfold lineOf
 rw[hf,if_neg (by simp[hne])]
 rfl
def Goes:List LineM→CSt→CSt→Prop
 | [],st,st'=>st=st'
 | x :: A,st,st'=>(st.line x).e=0∧(st.line x).at_≠7∧Goes A (st.line x) st'
theorem coreRun_goes:∀ {A:List LineM}{st st':CSt},Goes A st st'→∀ B,coreRun (A ++ B) st=coreRun B st'
 | [],st,st',h,B=>by
   have h:st=st':=h
   rw[h,List.nil_append]
 | x :: A,st,st',h,B=>by
   obtain ⟨h1,h2,h3⟩:=(h:(st.line x).e=0∧(st.line x).at_≠7∧Goes A (st.line x) st')
   rw[List.cons_append,coreRun,if_neg (by simp[h1]),if_neg h2,coreRun_goes h3 B]
theorem Goes.trans:∀ {A B:List LineM}{a b c:CSt},Goes A a b→Goes B b c→Goes (A ++ B) a c
 | [],B,a,b,c,h,k=>by
   have h:a=b:=h
   subst h;exact k
 | x :: A,B,a,b,c,h,k=>⟨h.1,h.2.1,Goes.trans h.2.2 k⟩
theorem Goes.one {x:LineM}{st st':CSt}(h:st.line x=st') (he:st'.e=0) (ha:st'.at_≠7):Goes [x] st st':=by
 subst h;exact ⟨he,ha,rfl⟩
theorem run_fails {x:LineM}{st:CSt}(h:(st.line x).e≠0) (B:List LineM):coreRun (x :: B) st=(noCore,x.no,(st.line x).e):=by
 rw[coreRun,if_pos h]
theorem run_ends {x:LineM}{st:CSt}(h:(st.line x).e=0) (h7:(st.line x).at_=7) (B:List LineM):coreRun (x :: B) st=((st.line x).c,0,0):=by
 rw[coreRun,if_neg (by simp[h]),if_pos h7]
theorem row_new {st:CSt}(no:Nat) {s:Txt}(he:st.e=0) (hat:st.at_=2) (hn:nameB s=true) (hm:(s == markerM)=false) (hf:atT st.rows s=none) (hl:st.c.rows.length<40) :
 st.line ⟨no,false,[[76],s]⟩={ st with l:=[],rows:=(s,(st.c.rows.length:Nat)) :: st.rows,c:={ st.c with rows:=st.c.rows ++ [(⟨s,1,[],[48],[]⟩:RowM)] } }:=by
 have hk:idxT kindsM [76]=1:=by decide
 have h40:¬ (40:Int)≤(st.c.rows.length:Nat):=by omega
 simp[CSt.line,hat,CSt.row,CSt.many,CSt.fails,CSt.word,he,hk,hn,hm,hf,h40,CSt.rowEnd]
theorem row_full {st:CSt}(no:Nat) {s:Txt}(he:st.e=0) (hat:st.at_=2) (hn:nameB s=true) (hm:(s == markerM)=false) (hf:atT st.rows s=none) (hl:40≤st.c.rows.length) :
 (st.line ⟨no,false,[[76],s]⟩).e=6:=by
 have hk:idxT kindsM [76]=1:=by decide
 have h40:(40:Int)≤(st.c.rows.length:Nat):=by omega
 simp[CSt.line,hat,CSt.row,CSt.many,CSt.fails,CSt.word,he,hk,hn,hm,hf,h40,CSt.rowEnd]
theorem col_new {st:CSt}(no:Nat) {s rn:Txt}{i:Nat}(he:st.e=0) (hat:st.at_=3) (hn:nameB s=true) (hr:(s == rhsM)=false) (hm:rn≠markerM) (hf:atT st.cols s=none) (hl:st.c.cols.length<40) (hi:atT st.rows rn=some (i:Int)) :
 st.line ⟨no,false,[s,rn,[49]]⟩={ st with l:=[],cols:=(s,(st.c.cols.length:Nat)) :: st.cols,seen:=[rn],c:={ st.c with cols:=st.c.cols ++ [(⟨s,[48],[],[48],st.integer⟩:ColM)],rows:=st.c.rows.modify i fun x=>{ x with coef:=x.coef ++ [((st.c.cols.length:Int),[49])] } } }:=by
 have h40:¬ (40:Int)≤(st.c.cols.length:Nat):=by omega
 have hi0:¬ ((i:Int)<0):=by omega
 simp[CSt.line,hat,CSt.column,CSt.many,CSt.fails,CSt.word,he,hn,hr,hm,hf,h40,CSt.pairs,CSt.pair,hi,hi0,CSt.number,litOf_one,CSt.put,fracText_one,setRowM]
theorem col_full {st:CSt}(no:Nat) {s rn:Txt}(he:st.e=0) (hat:st.at_=3) (hn:nameB s=true) (hr:(s == rhsM)=false) (hm:rn≠markerM) (hf:atT st.cols s=none) (hl:40≤st.c.cols.length) :
 (st.line ⟨no,false,[s,rn,[49]]⟩).e=6:=by
 have h40:(40:Int)≤(st.c.cols.length:Nat):=by omega
 simp[CSt.line,hat,CSt.column,CSt.many,CSt.fails,CSt.word,he,hn,hr,hm,hf,h40]
theorem head_rhs {st:CSt}(no:Nat) (he:st.e=0) (hat:st.at_=3):st.line ⟨no,true,[rhsM]⟩={ st with l:=[],at_:=4,seen:=[] }:=by
 have hk:idxT headsM rhsM=4:=by decide
 simp[CSt.line,CSt.head,CSt.word,CSt.fails,he,hat,hk]
theorem head_end {st:CSt}(no:Nat) (he:st.e=0) (hat:st.at_=4∨st.at_=6):st.line ⟨no,true,[[69,78,68,65,84,65]]⟩={ st with l:=[],at_:=7,seen:=[] }:=by
 have hk:idxT headsM [69,78,68,65,84,65]=7:=by decide
 rcases hat with hat|hat<;>simp[CSt.line,CSt.head,CSt.word,CSt.fails,he,hat,hk]
theorem head_cols {st:CSt}(no:Nat) (he:st.e=0) (hat:st.at_=2) (ho:st.c.obj≠[]):st.line ⟨no,true,[[67,79,76,85,77,78,83]]⟩={ st with l:=[],at_:=3,seen:=[] }:=by
 have hk:idxT headsM [67,79,76,85,77,78,83]=3:=by decide
 have ho':st.c.obj.isEmpty=false:=by simpa using ho
 simp[CSt.line,CSt.head,CSt.word,CSt.fails,he,hat,hk,ho']
end Vic
end
section
namespace Go.Proofs.YtjipjfoambbofaaGreatDoor
open Go.RowKit Vic
theorem tdg_small {n:Nat}(h:n<100):(tdg n).length≤100000:=Nat.le_trans (digs_length_le (B:=10000) (by omega) (Nat.lt_of_lt_of_le h (by show 100≤10000 ^ 1;omega))) (by omega)
theorem num_text (W:World) (v:Value) (z:Int) (h1 : -100<z) (h2:z<100) (hv:RefQ W v (decide (z<0)) z.natAbs 1):Calls Tryz.prog 11 #[v] W (Keeps (.string ⟨(intT z).toArray⟩) W):=by
 have:=ref_Q_Text W v _ _ _ hv (by omega) (tdg_small (by omega)) (tdg_small (by omega))
 have e:quo (decide (z<0)) z.natAbs 1=(z:Rat):=by
  rw[quo_one]
  congr 1
  unfold sgn
  by_cases h:z<0
  ·rw[decide_eq_true h,if_pos rfl];omega
  ·rw[decide_eq_false h,if_neg (by simp)];omega
 rw[e,intT_is h1 h2]at this
 exact this
theorem law7_num (w:World) (z:Int) (h1 : -100<z) (h2:z<100):Calls Tryz.prog 7 #[.int .i64 z] w (Keeps (.string ⟨(intT z).toArray⟩) w):=by
 have CO:=Lib.hid (ref_Of w z (by omega) (by omega))
 have CT:Hid (∀ W v,RefQ W v (decide (z<0)) z.natAbs 1→Calls Tryz.prog 11 #[v] W (Keeps (.string ⟨(intT z).toArray⟩) W)):=Lib.hid fun W v hv=>num_text W v z h1 h2 hv
 clear h1 h2
 go_enter Tryz.func7,Tryz.ntmps7
 go_wp2_with fail
 refine CO.out.mono ?_
 rintro e w1 ⟨v,rfl,hv,hb1⟩
 have C2:=Lib.hid (CT.out w1 v hv)
 clear hv
 go_wp2_with fail
 refine C2.out.mono ?_
 rintro e w2 ⟨rfl,hb2⟩
 go_wp2_with fail
 go_ret
 exact ⟨rfl,below_seq hb1 hb2⟩
end Go.Proofs.YtjipjfoambbofaaGreatDoor
end
section
namespace Vic
open Go
def rN (i:Nat):Txt:=114 :: dec2 i
def xN (i:Nat):Txt:=120 :: dec2 i
def rowL (i:Nat):Txt:=32 :: ([76,32] ++ rN i)
def colL (i:Nat):Txt:=32 :: (xN i ++ [32,114,48,32,49])
def nameH:Txt:=[78,65,77,69,32,65]
def rowsH:Txt:=[82,79,87,83]
def objL:Txt:=[32,78,32,111]
def colsH:Txt:=[67,79,76,85,77,78,83]
def endH:Txt:=[69,78,68,65,84,65]
def lim0:List Txt:=[nameH,rowsH,objL]
def limLines (n m:Nat):List Txt:=lim0 ++ ((List.range n).map rowL ++ ([colsH] ++ ((List.range m).map colL ++ [rhsM,endH])))
theorem lim_facts:∀ i,i<43→OkL (rowL i)∧OkL (colL i)∧fieldsB (rowL i) = [[76],rN i]∧fieldsB (colL i) = [xN i,[114,48],[49]]∧nameB (rN i)=true∧nameB (xN i)=true∧(rN i == markerM)=false∧(xN i == rhsM)=false:=by decide +kernel
theorem atT_ne {l:List (Txt × Int)}{s t:Txt}{v:Int}(h:s≠t):atT ((s,v) :: l) t=atT l t:=by
 have:(s == t)=false:=beq_eq_false_iff_ne.2 h
 simp[atT,List.find?_cons,this]
theorem atT_eq {l:List (Txt × Int)}{s:Txt}{v:Int}:atT ((s,v) :: l) s=some v:=by simp[atT]
theorem rN_ne {i j:Nat}(hi:i<100) (hj:j<100) (h:i≠j):rN i≠rN j:=fun e=>h (dec2_inj hi hj (List.cons.inj e).2)
theorem xN_ne {i j:Nat}(hi:i<100) (hj:j<100) (h:i≠j):xN i≠xN j:=fun e=>h (dec2_inj hi hj (List.cons.inj e).2)
structure RInv (st:CSt) (i:Nat):Prop where
 e:st.e=0
 at_:st.at_=2
 obj:st.c.obj≠[]
 cols:st.c.cols = []
 cmap:st.cols = []
 len:st.c.rows.length=i
 zero:0<i→atT st.rows (rN 0)=some 0
 fresh:∀ j,i≤j→j<100→atT st.rows (rN j)=none
 coef:∀ y∈st.c.rows,y.coef = []
theorem row_step {st:CSt}{i:Nat}(h:RInv st i) (hi:i<40) (no:Nat):∃ st',st.line ⟨no,false,[[76],rN i]⟩=st'∧RInv st' (i+1):=by
 obtain ⟨_,_,_,_,hn,_,hm,_⟩:=lim_facts i (by omega)
 refine ⟨_,row_new no h.e h.at_ hn hm (h.fresh i (Nat.le_refl _) (by omega)) (by rw[h.len];exact hi),⟨h.e,h.at_,h.obj,h.cols,h.cmap,by simp[h.len],?_,?_,?_⟩⟩
 ·intro _
  by_cases h0:i=0
  ·subst h0
   rw[show ((rN 0,((st.c.rows.length:Nat):Int)) :: st.rows)=((rN 0,(0:Int)) :: st.rows) by rw[h.len];rfl]
   exact atT_eq
  ·exact (atT_ne (rN_ne (by omega) (by omega) h0)).trans (h.zero (by omega))
 ·intro j h1 h2
  exact (atT_ne (rN_ne (by omega) (by omega) (by omega))).trans (h.fresh j (by omega) h2)
 ·intro y hy
  rcases List.mem_append.1 hy with hy|hy
  ·exact h.coef y hy
  ·rw[List.mem_singleton.1 hy]
theorem rows_run:∀ (k i no:Nat) {st:CSt},RInv st i→i+k≤40→∃ st',RInv st' (i+k)∧Goes (linesOf no ((List.range' i k).map rowL)) st st'
 | 0,i,no,st,h,_=>⟨st,h,rfl⟩
 | k+1,i,no,st,h,hk=>by
   obtain ⟨_,_,hf,_⟩:=lim_facts i (by omega)
   obtain ⟨st1,e1,h1⟩:=row_step h (by omega) no
   obtain ⟨st2,h2,g2⟩:=rows_run k (i+1) (no+1) h1 (by omega)
   refine ⟨st2,by rw[show i+(k+1)=i+1+k by omega];exact h2,?_⟩
   rw[List.range'_succ,List.map_cons,linesOf,show lineOf no (rowL i) = [⟨no,false,[[76],rN i]⟩]from lineOf_sp hf (by simp) no]
   exact (Goes.one e1 h1.e (by rw[h1.at_];decide)).trans g2
structure KInv (st:CSt) (n i:Nat):Prop where
 e:st.e=0
 at_:st.at_=3
 zero:atT st.rows [114,48]=some 0
 rlen:st.c.rows.length=n
 len:st.c.cols.length=i
 fresh:∀ j,i≤j→j<100→atT st.cols (xN j)=none
 coef:(st.c.rows[0]?).map (·.coef.length)=some i
theorem col_step {st:CSt}{n i:Nat}(h:KInv st n i) (hi:i<40) (no:Nat):∃ st',st.line ⟨no,false,[xN i,[114,48],[49]]⟩=st'∧KInv st' n (i+1):=by
 obtain ⟨_,_,_,_,_,hn,_,hr⟩:=lim_facts i (by omega)
 refine ⟨_,col_new no (i:=0) h.e h.at_ hn hr (by decide) (h.fresh i (Nat.le_refl _) (by omega)) (by rw[h.len];exact hi) h.zero,⟨h.e,h.at_,h.zero,by simp[h.rlen],by simp[h.len],?_,?_⟩⟩
 ·intro j h1 h2
  exact (atT_ne (xN_ne (by omega) (by omega) (by omega))).trans (h.fresh j (by omega) h2)
 ·have hc:=h.coef
  cases hr:st.c.rows[0]? with
  | none=>rw[hr]at hc;simp at hc
  | some y=>
    rw[hr]at hc
    simp only[Option.map_some,Option.some.injEq]at hc
    simp[List.getElem?_modify,hr,hc]
theorem cols_run:∀ (k i no:Nat) {st:CSt}{n:Nat},KInv st n i→i+k≤40→∃ st',KInv st' n (i+k)∧Goes (linesOf no ((List.range' i k).map colL)) st st'
 | 0,i,no,st,n,h,_=>⟨st,h,rfl⟩
 | k+1,i,no,st,n,h,hk=>by
   obtain ⟨_,_,_,hf,_⟩:=lim_facts i (by omega)
   obtain ⟨st1,e1,h1⟩:=col_step h (by omega) no
   obtain ⟨st2,h2,g2⟩:=cols_run k (i+1) (no+1) h1 (by omega)
   refine ⟨st2,by rw[show i+(k+1)=i+1+k by omega];exact h2,?_⟩
   rw[List.range'_succ,List.map_cons,linesOf,show lineOf no (colL i) = [⟨no,false,[xN i,[114,48],[49]]⟩]from lineOf_sp hf (by simp) no]
   exact (Goes.one e1 h1.e (by rw[h1.at_];decide)).trans g2
def st3:CSt:=⟨⟨[65],[111],[],[]⟩,2,[([111],-1)],[],[],false,[],0⟩
theorem head_name (no:Nat):CSt.zero.line ⟨no,true,[[78,65,77,69],[65]]⟩=⟨⟨[65],[],[],[]⟩,1,[],[],[],false,[],0⟩:=by
 have hk:idxT headsM [78,65,77,69]=1:=by decide
 have hn:nameB [65]=true:=by decide
 simp[CSt.zero,noCore,CSt.line,CSt.head,CSt.word,CSt.fails,hk,hn]
theorem head_rows {st:CSt}(no:Nat) (he:st.e=0) (hat:st.at_=1):st.line ⟨no,true,[rowsH]⟩={ st with l:=[],at_:=2,seen:=[] }:=by
 have hk:idxT headsM rowsH=2:=by decide
 simp[CSt.line,CSt.head,CSt.word,CSt.fails,he,hat,hk]
theorem row_obj {st:CSt}(no:Nat) {s:Txt}(he:st.e=0) (hat:st.at_=2) (hn:nameB s=true) (hm:(s == markerM)=false) (hf:atT st.rows s=none) (ho:st.c.obj = []) :
 st.line ⟨no,false,[[78],s]⟩={ st with l:=[],rows:=(s,-1) :: st.rows,c:={ st.c with obj:=s } }:=by
 have hk:idxT kindsM [78]=0:=by decide
 simp[CSt.line,hat,CSt.row,CSt.many,CSt.fails,CSt.word,he,hk,hn,hm,hf,ho,CSt.rowEnd]
theorem lim0_lines:linesOf 1 lim0 = [⟨1,true,[[78,65,77,69],[65]]⟩,⟨2,true,[rowsH]⟩,⟨3,false,[[78],[111]]⟩]:=by rfl
theorem lim0_goes:Goes (linesOf 1 lim0) CSt.zero st3:=by
 rw[lim0_lines]
 refine Goes.trans (A:=[_]) (Goes.one (head_name 1) rfl (by decide)) (Goes.trans (A:=[_]) (Goes.one (head_rows 2 rfl rfl) rfl (by decide)) (Goes.one (row_obj 3 rfl rfl (by decide) (by decide) rfl rfl) rfl (by decide)))
theorem lineOf_head {L:Txt}(hl:L=colsH∨L=rhsM∨L=endH) (no:Nat):lineOf no L = [⟨no,true,[L]⟩]:=by
 rcases hl with rfl|rfl|rfl<;>rfl
theorem ok_head {L:Txt}(hl:L=colsH∨L=rhsM∨L=endH):OkL L:=by
 rcases hl with rfl|rfl|rfl<;>decide
theorem st3_inv:RInv st3 0:=⟨rfl,rfl,by decide,rfl,rfl,rfl,fun h=>by omega,fun j _ h=>by
 rw[show st3.rows = [([111],-1)]from rfl,atT_ne]
 ·rfl
 ·intro e
  have:=congrArg (fun l=>l.head?) e
  simp[rN]at this,fun y hy=>by cases hy⟩
theorem range40 (j:Nat):List.range' 0 (40+(j+1))=List.range' 0 40 ++ (40 :: List.range' 41 j):=by
 rw[← List.range'_succ (s:=40) (n:=j) (step:=1),List.range'_append_1]
theorem lim_ok {n m:Nat}(hn:n≤43) (hm:m≤43):∀ l∈limLines n m,OkL l:=by
 intro l hl
 unfold limLines at hl
 simp only[List.mem_append,List.mem_map,List.mem_range,List.mem_singleton,List.mem_cons,List.not_mem_nil,or_false]at hl
 rcases hl with hl|⟨i,hi,rfl⟩|rfl|⟨i,hi,rfl⟩|rfl|rfl
 ·have:∀ l∈lim0,OkL l:=by decide
  exact this l hl
 ·exact (lim_facts i (by omega)).1
 ·exact ok_head (.inl rfl)
 ·exact (lim_facts i (by omega)).2.1
 ·exact ok_head (.inr (.inl rfl))
 ·exact ok_head (.inr (.inr rfl))
theorem lim_tail {st:CSt}{n m no:Nat}(h:RInv st n) (hn:0<n) (hm:m≤43) :
 (40<m→coreRun (linesOf no ([colsH] ++ ((List.range m).map colL ++ [rhsM,endH]))) st=(noCore,no+41,6)) ∧
 (m≤40→∃ c,coreRun (linesOf no ([colsH] ++ ((List.range m).map colL ++ [rhsM,endH]))) st=(c,0,0)∧c.rows.length=n∧c.cols.length=m∧(c.rows[0]?).map (·.coef.length)=some m):=by
 have hc:=head_cols no h.e h.at_ h.obj
 have hk:KInv ({ st with l:=[],at_:=3,seen:=[] }:CSt) n 0:=⟨h.e,rfl,h.zero hn,h.len,by simp[h.cols],fun j _ _=>by rw[show (({ st with l:=[],at_:=3,seen:=[] }:CSt)).cols = []from h.cmap];rfl,by
  have hl:0<st.c.rows.length:=by rw[h.len];exact hn
  show (st.c.rows[0]?).map _=_
  rw[List.getElem?_eq_getElem hl,Option.map_some,h.coef _ (List.getElem_mem hl)];rfl⟩
 have g1:Goes [⟨no,true,[colsH]⟩] st { st with l:=[],at_:=3,seen:=[] }:=Goes.one hc h.e (by show (3:Int)≠7;decide)
 rw[List.singleton_append,linesOf,lineOf_head (.inl rfl),coreRun_goes g1,List.range_eq_range']
 constructor
 ·intro h40
  obtain ⟨j,rfl⟩:∃ j,m=40+(j+1):=⟨m - 41,by omega⟩
  obtain ⟨st',h',g'⟩:=cols_run 40 0 (no+1) hk (by omega)
  obtain ⟨_,_,_,hf,_,hnm,_,hr⟩:=lim_facts 40 (by omega)
  rw[range40,List.map_append,List.append_assoc,linesOf_app,coreRun_goes g',List.map_cons,List.cons_append,linesOf,show ∀ x,lineOf x (colL 40) = [⟨x,false,[xN 40,[114,48],[49]]⟩]from fun x=>lineOf_sp hf (by simp) x,List.singleton_append,List.length_map,List.length_range']
  have he:=col_full (st:=st') (no+1+40) (rn:=[114,48]) h'.e h'.at_ hnm hr (by decide) (h'.fresh 40 (by omega) (by omega)) (by rw[h'.len];omega)
  rw[run_fails (by rw[he];decide),he]
 ·intro h40
  obtain ⟨st',h',g'⟩:=cols_run m 0 (no+1) hk (by omega)
  rw[linesOf_app,coreRun_goes g',linesOf,lineOf_head (.inr (.inl rfl)),linesOf,lineOf_head (.inr (.inr rfl))]
  have g2:∀ x,Goes [⟨x,true,[rhsM]⟩] st' { st' with l:=[],at_:=4,seen:=[] }:=fun x=>Goes.one (head_rhs x h'.e h'.at_) h'.e (by show (4:Int)≠7;decide)
  rw[coreRun_goes (g2 _),List.singleton_append]
  have e7:=fun x=>head_end (st:={ st' with l:=[],at_:=4,seen:=[] }) x h'.e (.inl rfl)
  rw[run_ends (by rw[show endH = [69,78,68,65,84,65]from rfl,e7];exact h'.e) (by rw[show endH = [69,78,68,65,84,65]from rfl,e7]),show endH = [69,78,68,65,84,65]from rfl,e7]
  refine ⟨_,rfl,h'.rlen,?_,?_⟩
  ·rw[← Nat.zero_add m];exact h'.len
  ·rw[← Nat.zero_add m];exact h'.coef
theorem limit_is {n m:Nat}(h1:36≤n) (h2:n≤43) (h3:36≤m) (h4:m≤43) :
 (40<n→coreGet (textOf (limLines n m))=(noCore,44,6))∧(n≤40→40<m→coreGet (textOf (limLines n m))=(noCore,n+45,6)) ∧
 (n≤40→m≤40→∃ c,coreGet (textOf (limLines n m))=(c,0,0)∧c.rows.length=n∧c.cols.length=m∧(c.rows[0]?).map (·.coef.length)=some m):=by
 rw[coreGet_text (by unfold limLines;simp[lim0];omega) (lim_ok h2 h4)]
 unfold limLines
 rw[linesOf_app,coreRun_goes lim0_goes,show 1+lim0.length=4 from rfl]
 refine ⟨fun h40=>?_,fun hn hm=>?_,fun hn hm=>?_⟩
 ·obtain ⟨j,rfl⟩:∃ j,n=40+(j+1):=⟨n - 41,by omega⟩
  obtain ⟨st',h',g'⟩:=rows_run 40 0 4 st3_inv (by omega)
  obtain ⟨_,_,hf,_,hnm,_,hr,_⟩:=lim_facts 40 (by omega)
  rw[List.range_eq_range',range40,List.map_append,List.append_assoc,linesOf_app,coreRun_goes g',List.map_cons,List.cons_append,linesOf,show ∀ x,lineOf x (rowL 40) = [⟨x,false,[[76],rN 40]⟩]from fun x=>lineOf_sp hf (by simp) x,List.singleton_append,List.length_map,List.length_range']
  have he:=row_full (st:=st') (4+40) h'.e h'.at_ hnm hr (h'.fresh 40 (by omega) (by omega)) (by rw[h'.len];omega)
  rw[run_fails (by rw[he];decide),he]
 ·obtain ⟨st',h',g'⟩:=rows_run n 0 4 st3_inv (by omega)
  rw[Nat.zero_add]at h'
  rw[linesOf_app,List.length_map,List.length_range,List.range_eq_range' (n:=n),coreRun_goes g',(lim_tail h' (by omega) h4).1 hm,show 4+n+41=n+45 by omega]
 ·obtain ⟨st',h',g'⟩:=rows_run n 0 4 st3_inv (by omega)
  rw[Nat.zero_add]at h'
  rw[linesOf_app,List.length_map,List.length_range,List.range_eq_range' (n:=n),coreRun_goes g']
  exact (lim_tail h' (by omega) h4).2 hm
end Vic
end
section
namespace Vic
open Go Go.RowKit
theorem draw43 (n:Int):∃ N:Nat,36≤N∧N≤43∧wrap64 (36+(wrap64 (n.tmod 8+8)).tmod 8)=(N:Int):=by
 have h1:=Int.tmod_lt_of_pos n (by decide:(0:Int)<8)
 have h2:=Int.lt_tmod_of_pos n (by decide:(0:Int)<8)
 generalize n.tmod 8=a at *
 have e1:wrap64 (a+8)=a+8:=by unfold wrap64;omega
 rw[e1]
 have h3:=Int.tmod_lt_of_pos (a+8) (by decide:(0:Int)<8)
 have h4:=Int.tmod_nonneg (a:=a+8) 8 (by omega)
 generalize (a+8).tmod 8=b at *
 obtain ⟨B,rfl⟩:=Int.eq_ofNat_of_zero_le h4
 exact ⟨36+B,by omega,by omega,by unfold wrap64;omega⟩
def limA (k:Nat):Txt:=textOf (lim0 ++ (List.range k).map rowL)
def limB (n k:Nat):Txt:=textOf (lim0 ++ ((List.range n).map rowL ++ ([colsH] ++ (List.range k).map colL)))
theorem intT_nat (k:Nat):intT (k:Int)=dec2 k:=by
 unfold intT
 rw[if_neg (by omega),Int.natAbs_natCast,List.nil_append]
theorem limA_zero:limA 0 = [78,65,77,69,32,65,10,82,79,87,83,10,32,78,32,111,10]:=by rfl
theorem limA_succ (k:Nat):limA (k+1)=limA k ++ ([32,76,32,114] ++ dec2 k ++ [10]):=by
 unfold limA
 rw[List.range_succ,List.map_append,← List.append_assoc,textOf_app _ (List.map rowL [k])]
 congr 1
 rw[List.map_singleton,textOf_one];rfl
theorem limB_zero (n:Nat):limB n 0=limA n ++ [67,79,76,85,77,78,83,10]:=by
 unfold limB limA
 rw[← List.append_assoc,textOf_app];rfl
theorem limB_succ (n k:Nat):limB n (k+1)=limB n k ++ ([32,120] ++ dec2 k ++ [32,114,48,32,49,10]):=by
 unfold limB
 rw[List.range_succ,List.map_append,← List.append_assoc [colsH],← List.append_assoc (List.map rowL _),← List.append_assoc lim0,textOf_app _ (List.map colL [k])]
 congr 1
 rw[List.map_singleton,textOf_one]
 simp[colL,xN]
theorem limB_end (n m:Nat):textOf (limLines n m)=limB n m ++ [82,72,83,10,69,78,68,65,84,65,10]:=by
 unfold limB limLines
 rw[show ([82,72,83,10,69,78,68,65,84,65,10]:Txt)=textOf [rhsM,endH]from rfl,← textOf_app]
 simp only[List.append_assoc]
theorem limA_len:∀ k:Nat,(limA k).length≤17+7*k
 | 0=>by rw[limA_zero];decide
 | k+1=>by
   have:=limA_len k
   have:=dec2_len k
   rw[limA_succ];simp;omega
theorem limB_len (n:Nat):∀ k:Nat,(limB n k).length≤25+7*n+10*k
 | 0=>by
   have:=limA_len n
   rw[limB_zero];simp;omega
 | k+1=>by
   have:=limB_len n k
   have:=dec2_len k
   rw[limB_succ];simp;omega
end Vic
namespace Go.Proofs.YtjipjfoambbofaaGreatDoor
open Go.RowKit Vic
set_option maxRecDepth 100000 in
set_option maxHeartbeats 8000000 in
theorem law7_CoreLimit (w:World) (hT:T7 w) (hE:TabE w) (n m:Int) (hn1 : -9223372036854775808≤n) (hn2:n≤9223372036854775807) (hm1 : -9223372036854775808≤m) (hm2:m≤9223372036854775807) :
 Calls Tryz.prog 5 #[.int .i64 n,.int .i64 m] w (Keeps (.bool true) w):=by
 have CB:=Lib.hid (begun7 hT)
 have HE:=Lib.hid hE
 obtain ⟨N,hN1,hN2,hNe⟩:=draw43 n
 obtain ⟨M,hM1,hM2,hMe⟩:=draw43 m
 clear hT hE
 go_enter Tryz.func5,Tryz.ntmps5
 go_wp2_with fail
 refine CB.out.mono ?_
 rintro e w1 ⟨rfl,hb1⟩
 go_upto_region 5 with fail
 rw[hNe,hMe]
 clear hNe hMe CB
 have HB1:=Lib.hid hb1
 clear hb1
 go_wp2_with fail
 go_loopg [7,6] N (fun g t s wr=>∃ k:Nat,t=.int .i64 k∧k+g=N∧s=.string ⟨(limA k).toArray⟩∧Below w1.heap.size w1 wr)
 case atStart=>exact ⟨0,rfl,by omega,by rw[limA_zero],Below.refl _ _⟩
 case round=>
  obtain ⟨k,rfl,hk,rfl,hbr⟩:=hrel
  by_cases hlt:k<N
  ·have CN:=Lib.hid (law7_num wr (k:Int) (by omega) (by omega))
   have hcat:(⟨(limA k).toArray⟩:ByteArray) ++ ((⟨#[32,76,32,114]⟩ ++ ⟨(intT (k:Int)).toArray⟩) ++ ⟨#[10]⟩)=⟨(limA (k+1)).toArray⟩:=by
    apply ByteArray.ext;rw[limA_succ,intT_nat];simp
   have l1:=limA_len k
   have l2:=intT_len (k:Int)
   go_wp2_with fail
   refine CN.out.mono ?_
   rintro e w2 ⟨rfl,hb2⟩
   go_wp2_with fail
   go_roundg (gk - 1)
   case measure=>omega
   case rel=>exact ⟨k+1,by go_num,by omega,rfl,hbr.trans (hb2.mono hbr.size)⟩
  ·obtain rfl:k=N:=by omega
   have hcat0:(⟨(limA k).toArray⟩:ByteArray) ++ ⟨#[67,79,76,85,77,78,83,10]⟩=⟨(limB k 0).toArray⟩:=by
    apply ByteArray.ext;rw[limB_zero];simp
   clear hk hlt
   have l1:=limA_len k
   go_wp2_with fail
   try rw[hcat0]
   clear l1
   clear hcat0
   have HBR:=Lib.hid hbr
   clear hbr
   go_loopg [8,6] M (fun g t s wq=>∃ j:Nat,t=.int .i64 j∧j+g=M∧s=.string ⟨(limB k j).toArray⟩∧Below w1.heap.size w1 wq)
   case atStart=>exact ⟨0,rfl,by omega,rfl,HBR.out⟩
   case round=>
    obtain ⟨j,rfl,hj,rfl,hbq⟩:=hrel
    by_cases hlt:j<M
    ·have CN:=Lib.hid (law7_num wr (j:Int) (by omega) (by omega))
     have hcat:(⟨(limB k j).toArray⟩:ByteArray) ++ ((⟨#[32,120]⟩ ++ ⟨(intT (j:Int)).toArray⟩) ++ ⟨#[32,114,48,32,49,10]⟩)=⟨(limB k (j+1)).toArray⟩:=by
      apply ByteArray.ext;rw[limB_succ,intT_nat];simp
     have l1:=limB_len k j
     have l2:=intT_len (j:Int)
     go_wp2_with fail
     refine CN.out.mono ?_
     rintro e w2 ⟨rfl,hb2⟩
     go_wp2_with fail
     go_roundg (gk - 1)
     case measure=>omega
     case rel=>exact ⟨j+1,by go_num,by omega,rfl,hbq.trans (hb2.mono hbq.size)⟩
    ·obtain rfl:j=M:=by omega
     have hcat:(⟨(limB k j).toArray⟩:ByteArray) ++ ⟨#[82,72,83,10,69,78,68,65,84,65,10]⟩=⟨(textOf (limLines k j)).toArray⟩:=by
      apply ByteArray.ext;rw[limB_end];simp
     have hB:=below_seq HB1.out hbq
     have hlen:(textOf (limLines k j)).length≤4294967280:=by
      have:=limB_len k j
      rw[limB_end];simp;omega
     have cg:=core_Get wr (textOf (limLines k j)) (HE.out.keep hB).tab (HE.out.keep hB) hlen
     unfold CoreGot at cg
     have hL:=limit_is hN1 hN2 hM1 hM2
     obtain ⟨R,hR⟩:∃ R,R=coreGet (textOf (limLines k j)):=⟨_,rfl⟩
     rw[← hR]at cg hL
     have CG:=Lib.hid cg
     have HBQ:=Lib.hid hB
     clear hR cg hlen hj hlt hbq
     obtain ⟨hL1,hL2,hL3⟩:=hL
     have HL1:=Lib.hid hL1;have HL2:=Lib.hid hL2;have HL3:=Lib.hid hL3
     clear hL1 hL2 hL3
     have l1:=limB_len k j
     go_wp2_with fail
     clear l1
     try rw[hcat]
     refine CG.out.mono ?_
     rintro e w3 ⟨v,rfl,⟨rv,cv,rfl,hrows,hcols⟩,hb3⟩
     have HB3:=Lib.hid (below_seq HBQ.out hb3)
     clear hcat hb3 CG
     obtain ⟨rA,rc,rfl,hrc,hrow⟩:=hrows
     obtain ⟨cA,cc,rfl,hcc,_⟩:=hcols
     by_cases h1:40<k
     ·have hR:=HL1.out h1
      subst hR
      go_wp2_with fail
      go_ret
      exact ⟨rfl,below_seq HB3.out ((Below.refl _ _).alloc (Nat.le_refl _) _)⟩
     ·by_cases h2:40<j
      ·have hR:=HL2.out (by omega) h2
       subst hR
       go_wp2_with fail
       go_ret
       refine ⟨?_,below_seq HB3.out ((Below.refl _ _).alloc (Nat.le_refl _) _)⟩
       simp
       omega
      ·obtain ⟨c,hR,e1,e2,e3⟩:=HL3.out (by omega) (by omega)
       subst hR
       dsimp only at hrc hrow hcc
       obtain ⟨x0,hx0⟩:∃ x,c.rows[0]?=some x:=⟨c.rows[0]'(by omega),List.getElem?_eq_getElem (by omega)⟩
       obtain ⟨g,o,rfl,v2,_,_,hr2,_,_,hcs⟩:=hrow 0 x0 hx0
       obtain ⟨A2,c2,rfl,hc2,_⟩:=hcs
       have hn0:x0.coef.length=j:=by
        rw[hx0]at e3
        simpa using e3
       rw[show o+0*5+2=o+2 by omega,hn0]at hr2
       rw[hn0]at hc2
       rw[e1]at hrc
       rw[e2]at hcc
       have hr2':∀ ob,(w3.alloc ob).cell? ⟨g,o+2,none⟩=some (.slice A2 j c2):=fun ob=>cell_keep hr2 ((Below.refl _ _).alloc (Nat.le_refl _) _)
       have E1:=Lib.hid e1;have E2:=Lib.hid e2
       clear hx0 hn0 hrow e1 e2 e3
       dsimp only
       rw[E1.out,E2.out]
       go_wp2_with fail
       go_ret
       exact ⟨rfl,below_seq HB3.out ((Below.refl _ _).alloc (Nat.le_refl _) _)⟩
end Go.Proofs.YtjipjfoambbofaaGreatDoor
end
