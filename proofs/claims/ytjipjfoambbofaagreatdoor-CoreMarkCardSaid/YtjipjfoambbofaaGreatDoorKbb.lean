/- Package core's reader: a row. -/
import Derived.Test.YtjipjfoambbofaaGreatDoorKaz
import Derived.Deep.QuietTactic
import Derived.BigQuiet
import Derived.StillTailTactics
import Derived.Test.YtjipjfoambbofaaGreatDoorKba
set_option linter.unusedVariables false
set_option linter.unusedSimpArgs false
section
namespace Vic
open Go Go.RowKit
theorem idxT_ge (l:List Txt) (s:Txt) : -1≤idxT l s∧idxT l s<l.length:=by
 unfold idxT
 cases h:l.findIdx? (fun x=>x == s)with
 | none=>simp;omega
 | some i=>
   obtain ⟨hi,_⟩:=List.findIdx?_eq_some_iff_getElem.1 h
   constructor<;>simp<;>omega
theorem CSt.fails_c (st:CSt) (b:Bool) (e:Int):(st.fails b e).c=st.c:=by unfold CSt.fails;split<;>rfl
theorem CSt.word_c (st:CSt):st.word.2.c=st.c:=by
 unfold CSt.word
 dsimp only
 split<;>exact CSt.fails_c _ _ _
theorem CR.lt {B:Nat}{w:World}{r:Nat}{st:CSt}(h:CR B w r st):r<w.heap.size:=by
 obtain ⟨rv,cv,lv,mr,mc,ms,rvs,h⟩:=h;exact h.blk.lt
theorem StrsIn.only {w w':World}{r:Nat}{v:Value}{l:List Txt}(h:StrsIn w v l) (ho:Only r w w') (hn:∀ g o,v=.slice (some ⟨g,o,none⟩) l.length l.length→g≠r) (hv:∃ g o,v=.slice (some ⟨g,o,none⟩) l.length l.length):StrsIn w' v l:=by
 obtain ⟨g0,o0,rfl⟩:=hv
 exact h.imp_at fun g o x e j hx=>by
  injection e with e
  injection e with e1 e2
  unfold StrR at hx ⊢
  rw[ho.cell (by rw[← e1];exact hn _ _ rfl)]
  exact hx
end Vic
namespace Go.Proofs.YtjipjfoambbofaaGreatDoor
open Go.RowKit Vic
theorem info_Row0:(Tryz.prog.info? 45).map (fun i=>(i.zero,i.size,i.bytes))=some (some (.agg #[.string ⟨#[]⟩,.int .i64 0,.slice none 0 0,.string ⟨#[]⟩,.string ⟨#[]⟩]),5,80):=by kernel_rfl
theorem info_Row:∃ i:TypeInfo,Tryz.prog.info? 45=some i∧i.zero=some (.agg #[.string ⟨#[]⟩,.int .i64 0,.slice none 0 0,.string ⟨#[]⟩,.string ⟨#[]⟩])∧i.size=5∧i.bytes=80:=by
 have h:=info_Row0
 cases hi:Tryz.prog.info? 45 with
 | none=>rw[hi]at h;simp at h
 | some i=>rw[hi]at h;simp at h;exact ⟨i,rfl,h.1,h.2.1,h.2.2⟩
set_option maxRecDepth 100000 in
set_option maxHeartbeats 8000000 in
theorem core_row {B:Nat}{w:World}{r:Nat}{st:CSt}(h:CR B w r st) (hB:B≤w.heap.size) (hlen:st.c.rows.length≤1000000000):Calls Tryz.prog 76 #[.pointer (some ⟨r,0,none⟩)] w (Turns B r (.tuple #[]) st.row w):=by
 unfold Turns
 have hr:=h.base
 have hrl:=h.lt
 have HX0:Hid (CR B (w.alloc (.cells #[.int .i64 2] 3)) r st):=h.keep ((Below.refl _ _).alloc (Nat.le_refl _) _)
 have C1:=Lib.hid (core_many (h.keep (w':=w.alloc (.cells #[.int .i64 2] 3)) ((Below.refl _ _).alloc (Nat.le_refl _) _)) (.slice (some ⟨w.heap.size,0,none⟩) 1 1) [2] ⟨_,_,rfl,Nat.le_refl _,fun i x hx=>by
  rcases i with _|i
  ·simp at hx;subst hx;exact ⟨_,0,rfl,by unfold IntR;simp⟩
  ·simp at hx⟩ (by simp))
 obtain ⟨st1,h1⟩:∃ x,x=st.many [2]:=⟨_,rfl⟩
 obtain ⟨k1,st2,h2⟩:∃ a b,st1.word=(a,b):=⟨_,_,rfl⟩
 obtain ⟨k,hk⟩:∃ x,x=idxT kindsM k1:=⟨_,rfl⟩
 obtain ⟨st3,h3⟩:∃ x,x=st2.fails (decide (k<0)) 1:=⟨_,rfl⟩
 obtain ⟨st4,h4⟩:∃ x,x=st3.fails (k == 0 && !st3.c.obj.isEmpty) 7:=⟨_,rfl⟩
 obtain ⟨s,st5,h5⟩:∃ a b,st4.word=(a,b):=⟨_,_,rfl⟩
 obtain ⟨st6,h6⟩:∃ x,x=st5.fails (!nameB s || s == markerM || (atT st5.rows s).isSome) 4:=⟨_,rfl⟩
 obtain ⟨st7,h7⟩:∃ x,x=st6.fails (decide (0<k) && decide ((40:Int)≤(st6.c.rows.length:Nat))) 6:=⟨_,rfl⟩
 have hM:Hid (st.row=st7.rowEnd k s):=by
  show _=_
  unfold CSt.row
  dsimp only
  rw[← h1,h2]
  dsimp only
  rw[← hk,← h3,← h4,h5]
  dsimp only
  rw[← h6,← h7]
 have HL:Hid (st7.c.rows.length≤1000000000):=by
  have e5:st5.c=st4.c:=by have:=CSt.word_c st4;rw[h5]at this;exact this
  have e2:st2.c=st1.c:=by have:=CSt.word_c st1;rw[h2]at this;exact this
  have e:st7.c=st.c:=by
   rw[h7,CSt.fails_c,h6,CSt.fails_c,e5,h4,CSt.fails_c,h3,CSt.fails_c,e2,h1]
   exact CSt.fails_c _ _ _
  show _≤_
  rw[e];exact hlen
 have HE1:Hid (st.fails (!([2]:List Int).contains (st.l.length:Int)) 1=st1):=h1.symm
 have CA:Hid (∀ W,CR B W r st1→Calls Tryz.prog 144 #[.pointer (some ⟨r,0,none⟩)] W (fun e w'=>e=.returned (.string ⟨k1.toArray⟩)∧CR B w' r st2∧Only r W w')):=Lib.hid fun W hW=>by
  have:=core_word hW
  unfold Worded at this
  rwa [h2]at this
 have CI:Hid (∀ W v,StrsIn W v kindsM→Calls Tryz.prog 142 #[v,.string ⟨k1.toArray⟩] W (Rets (.int .i64 k) W)):=Lib.hid fun W v hv=>hk▸idx_str W v kindsM k1 hv (by decide)
 have CB:Hid (∀ W b,CR B W r st2→Calls Tryz.prog 80 #[.pointer (some ⟨r,0,none⟩),.bool b,.int .i64 1] W (Noted B r st2 b 1 W)):=Lib.hid fun W b hW=>core_fails hW b 1
 have CC:Hid (∀ W b,CR B W r st3→Calls Tryz.prog 80 #[.pointer (some ⟨r,0,none⟩),.bool b,.int .i64 7] W (Noted B r st3 b 7 W)):=Lib.hid fun W b hW=>core_fails hW b 7
 have CD:Hid (∀ W,CR B W r st4→Calls Tryz.prog 144 #[.pointer (some ⟨r,0,none⟩)] W (fun e w'=>e=.returned (.string ⟨s.toArray⟩)∧CR B w' r st5∧Only r W w'∧OkWord s)):=Lib.hid fun W hW=>by
  have:=core_word hW
  have hok:=hW.word
  unfold Worded at this
  rw[h5]at this hok
  exact this.mono fun e w' h=>⟨h.1,h.2.1,h.2.2,hok⟩
 have CE:Hid (∀ W b,CR B W r st5→Calls Tryz.prog 80 #[.pointer (some ⟨r,0,none⟩),.bool b,.int .i64 4] W (Noted B r st5 b 4 W)):=Lib.hid fun W b hW=>core_fails hW b 4
 have CF:Hid (∀ W b,CR B W r st6→Calls Tryz.prog 80 #[.pointer (some ⟨r,0,none⟩),.bool b,.int .i64 6] W (Noted B r st6 b 6 W)):=Lib.hid fun W b hW=>core_fails hW b 6
 have hk1 : -1≤k∧k<4:=by rw[hk];exact idxT_ge kindsM k1
 have H3:=Lib.hid h3;have H4:=Lib.hid h4;have H6:=Lib.hid h6;have H7:=Lib.hid h7
 clear h h1 h2 hk h3 h4 h5 h6 h7 hlen
 obtain ⟨hka,hkb⟩:=hk1
 obtain ⟨i1,hi1,hz1,hsz1,hby1⟩:=info_Row
 go_enter Tryz.func76,Tryz.ntmps76
 go_wp2_with fail
 refine C1.out.mono ?_
 rintro e w1 ⟨rfl,hr1,ho1,hx⟩
 rw[HE1.out]at hr1
 have hkp:CR B (w1.alloc (.cells #[.string ⟨#[78]⟩,.string ⟨#[76]⟩,.string ⟨#[69]⟩,.string ⟨#[71]⟩] 9)) r st1:=hr1.keep ((Below.refl _ _).alloc (Nat.le_refl _) _)
 have hrl1:=hr1.lt
 have C2:=Lib.hid (CA.out _ hkp)
 have HX1:=Lib.hid hkp
 clear hx hr1 hkp
 go_wp2_with fail
 refine C2.out.mono ?_
 rintro e w2 ⟨rfl,hr2,ho2⟩
 have hks:StrsIn w2 (.slice (some ⟨w1.heap.size,0,none⟩) 4 4) kindsM:=by
  refine ⟨_,_,rfl,Nat.le_refl _,fun i x hx=>⟨w1.heap.size,0,rfl,?_⟩⟩
  unfold StrR
  rw[ho2.cell (by omega)]
  rcases i with _|_|_|_|i<;>simp[kindsM]at hx<;>subst hx<;>simp
 have C3:=Lib.hid (CI.out w2 _ hks)
 have C4:=Lib.hid (fun b=>CB.out w2 b hr2)
 have HX2:=Lib.hid hr2
 clear hr2 hks
 go_wp2_with fail
 refine C3.out.mono ?_
 rintro e w' ⟨rfl,rfl⟩
 go_wp2_with fail
 refine (C4.out _).mono ?_
 rintro e w3 ⟨rfl,hr3,ho3,hx⟩
 rw[← H3.out]at hr3
 clear hx
 have C5:=Lib.hid (fun b=>CC.out w3 b hr3)
 have HX3:=Lib.hid hr3
 have ho:=hr3.objC
 clear hr3
 have hkc:(k≤0∧(k == 0)=true∧Hid (decide (0<k)=false))∨(0<k∧(k == 0)=false∧Hid (decide (0<k)=true))∨(k≤0∧(k == 0)=false∧Hid (decide (0<k)=false)):=by
  rcases Int.lt_trichotomy k 0 with h|h|h
  ·exact .inr (.inr ⟨by omega,beq_eq_false_iff_ne.2 (by omega),decide_eq_false (by omega)⟩)
  ·exact .inl ⟨by omega,by simpa using h,decide_eq_false (by omega)⟩
  ·exact .inr (.inl ⟨h,beq_eq_false_iff_ne.2 (by omega),decide_eq_true h⟩)
 rcases hkc with ⟨hk1,hk2,hkd⟩|⟨hk1,hk2,hkd⟩|⟨hk1,hk2,hkd⟩
 all_goals
  go_wp2_with fail
  refine (C5.out _).mono ?_
  rintro e w4 ⟨rfl,hr4,ho4,hx⟩
  clear hx
  have hr4':CR B w4 r st4:=hr4.cast (by rw[H4.out];simp[*])
  have C6:=Lib.hid (CD.out _ hr4')
  have HX4:=Lib.hid hr4'
  clear hr4 hr4'
  go_wp2_with fail
  refine C6.out.mono ?_
  rintro e w5 ⟨rfl,hr5,ho5,hok⟩
  have C7:=Lib.hid (fun W b (hW:CR B W r st5)=>CE.out W b hW)
  obtain ⟨mr,hmr,hlk⟩:=cr_lookR hr5 s
  have CN:=Lib.hid (words_Name w5 s (by have:=hok.1;omega))
  have HR5:=Lib.hid hr5
  clear hr5 hok
  go_wp2_with fail
  refine CN.out.mono ?_
  rintro e w6 ⟨rfl,hb6⟩
  have HR6:=Lib.hid (HR5.out.keep hb6)
  have hnm:(nameB s=false)∨(nameB s=true∧(s == [39,77,65,82,75,69,82,39])=true)∨(nameB s=true∧(s == [39,77,65,82,75,69,82,39])=false):=by
   by_cases h1:nameB s=true
   ·by_cases h2:s = [39,77,65,82,75,69,82,39]
    ·exact .inr (.inl ⟨h1,beq_iff_eq.2 h2⟩)
    ·exact .inr (.inr ⟨h1,beq_eq_false_iff_ne.2 h2⟩)
   ·exact .inl (by simpa using h1)
  have hrows:∀ W,CR B W r st6→∃ A c,W.cell? ⟨r,2,none⟩=some (.slice A st6.c.rows.length c)∧st6.c.rows.length≤c:=fun W h=>cr_rowsC h
  have HRW:=Lib.hid hrows
  clear hrows
  rcases hnm with hnm|⟨hnm,hmk⟩|⟨hnm,hmk⟩
  all_goals
   go_wp2_with fail
   refine (C7.out _ _ HR6.out).mono ?_
   rintro e w7 ⟨rfl,hr7,ho7,hx⟩
   clear hx
   have hr7':CR B w7 r st6:=hr7.cast (by rw[H6.out];simp[markerM, *])
   obtain ⟨A7,c7,hrc,_⟩:=HRW.out _ hr7'
   have C8:=Lib.hid (fun b=>CF.out w7 b hr7')
   have HX7:=Lib.hid hr7'
   clear hr7 hr7'
   go_wp2_with fail
   refine (C8.out _).mono ?_
   rintro e w8 ⟨rfl,hr8,ho8,hx⟩
   clear hx
   have hr8':CR B w8 r st7:=hr8.cast (Eq.trans (by first|rfl|(rw[hkd.out];done)|(rw[hkd.out];simp;done)) H7.out.symm)
   have he:=hr8'.eC
   have HR8:=Lib.hid hr8'
   clear hr8 hr8'
   have HW:Hid (Below B w w8∧w.heap.size≤w8.heap.size∧Fr w w8):=by
    have z1:Below B w (w.alloc (.cells #[.int .i64 2] 3)):=(Below.refl _ _).alloc hB _
    have z2:=z1.trans (ho1.below hr)
    have z3:=(z2.alloc (o:=(.cells #[.string ⟨#[78]⟩,.string ⟨#[76]⟩,.string ⟨#[69]⟩,.string ⟨#[71]⟩] 9)) (Nat.le_trans hB z2.size)).trans (ho2.below hr)
    have z4:=((z3.trans (ho3.below hr)).trans (ho4.below hr)).trans (ho5.below hr)
    have z5:=z4.trans (hb6.mono (Nat.le_trans hB z4.size))
    have al:∀ (W:World) (o:Obj),Fr W (W.alloc o):=fun W o=>Fr.below ((Below.refl _ _).alloc (Nat.le_refl _) _)
    have on:∀ {W W':World}{s':CSt},CR B W r s'→Only r W W'→Fr W W':=fun hc ho=>hc.frame fun g _ hg=>ho.block g hg
    refine ⟨(z5.trans (ho7.below hr)).trans (ho8.below hr),((z5.trans (ho7.below hr)).trans (ho8.below hr)).size,?_⟩
    exact ((((((((al _ _).trans (on HX0.out ho1)).trans (al _ _)).trans (on HX1.out ho2)).trans (on HX2.out ho3)).trans (on HX3.out ho4)).trans (on HX4.out ho5)).trans (Fr.below hb6)).trans ((on HR6.out ho7).trans (on HX7.out ho8))
   by_cases he0:st7.e=0
   ·have he1:(st7.e != 0)=false:=by simp[he0]
    rcases Classical.em (k=0)with hk0|hk0
    ·rcases Classical.em ((k == 0)=true)with hk9|hk9
     ·try (rw[hk2]at hk9;exact absurd hk9 Bool.false_ne_true)
      all_goals
       have HE:Hid (st.row={ st7 with c:={ st7.c with obj:=s },rows:=(s,-1) :: st7.rows }):=by show _=_;rw[hM.out];unfold CSt.rowEnd;rw[if_neg (by simp[he0]),if_pos hk0]
       obtain ⟨m,u,n,w9,w10,hm,hme,hes,hcr,hb10,hs10,hf10⟩:=cr_entryR (HR8.out.setObj s) s (-1)
       have hm8:w8.cell? ⟨r,5,none⟩=some (.map (some m)):=by rwa [World.cell?_setCell_other _ _ _ _ (by simp)]at hm
       have hob:=HR8.out.objC
       have hfz:=HR8.out.free 1
       have HCR:=Lib.hid hcr
       have HS:=Lib.hid hs10
       clear he0 hm hcr hs10 hk0
       go_wp2_with fail
       refine bodyPost_ret (results_none rfl _ _ _) rfl ?_
       exact ⟨rfl,by rw[HE.out];exact HCR.out,HW.out.1.trans ((below_set hr).trans hb10),by rw[HS.out];simpa [World.setCell]using HW.out.2.1,HW.out.2.2.trans ((HR8.out.frame fun g _ hg=>set_other _ r 1 _ g hg).trans hf10)⟩
     ·exact absurd (by simpa using hk0) hk9
    ·rcases Classical.em ((k == 0)=true)with hk9|hk9
     ·exact absurd (by simpa using hk9) hk0
     ·try exact absurd hk2 hk9
      all_goals
       have HE:Hid (st.row={ st7 with rows:=(s,(st7.c.rows.length:Nat)) :: st7.rows,c:={ st7.c with rows:=st7.c.rows ++ [(⟨s,k,[],[48],[]⟩:RowM)] } }):=by show _=_;rw[hM.out];unfold CSt.rowEnd;rw[if_neg (by simp[he0]),if_neg hk0]
       have hdr:Below w8.heap.size w8 w8.drew:=(Below.refl _ _).drew
       obtain ⟨m,w9,hm9,hup,hcr,hb9,hs9,hf9⟩:=cr_updR (HR8.out.keep hdr) s (st7.c.rows.length:Nat)
       have hm:w8.cell? ⟨r,5,none⟩=some (.map (some m)):=hm9
       obtain ⟨A8,c8,hrc8,hlc8⟩:=cr_rowsC HR8.out
       obtain ⟨rv,cv,lv,mr9,mc9,ms9,rvs,hd⟩:=hcr
       have hrv:=hd.cells.2.2.1
       have HD:=Lib.hid hd
       have HB9:=Lib.hid ((hdr.mono (Nat.le_trans hB HW.out.2.1)).trans hb9)
       have HS9:=Lib.hid hs9
       have HF9:=Lib.hid ((Fr.below hdr).trans hf9)
       have hBs:B≤w9.heap.size:=by rw[hs9];exact Nat.le_trans hB HW.out.2.1
       have hrn:Hid (rvs.length≤1000000000):=by
        have e:=congrArg List.length hd.rowsEq
        rw[List.length_map]at e
        show _≤_
        rw[e];exact HL.out
       clear he0 hk0 hk9 hm9 hd hb9 hs9 hdr hf9
       go_wp2_with fail
       go_still_tail 11,(by kernel_rfl)
       go_wp2_with (at_builtin;refine wpList_append_ownK (Kd:=fun _=>True) rfl (.tmp 100) (.tmp 104) 26 rfl B 45 i1 _ 5 Tryz.underlying26 hi1 hz1 hsz1 rfl (by omega) _ rvs.length _ rfl (HD.out.rows.rows.alloc _) ⟨w9.heap.size,0,none⟩ 1 1 [.string ⟨s.toArray⟩,.int .i64 k,.slice none 0 0,.string ⟨#[48]⟩,.string ⟨#[]⟩] rfl (by simp) (by intro j u hj;rcases j with _|_|_|_|_|j<;>simp at hj<;>subst hj<;>simp[Addr.add]) (by simp[Value.oneCell']) (by simp) (by simp) (by omega) (by have:=hrn.out;unfold maxLen;omega) (by have:=hrn.out;rw[hby1];omega) (by simp;omega) ?_;intro v6 w6 hown6 hgr6 hloc6;refine Hid.out ?_)
       obtain ⟨g6,cp6,rfl⟩:=OwnK.shape hown6 (by omega)
       have hblk6:=(grown_other (HD.out.rows.rows.alloc _) hgr6 (HD.out.blk.alloc _) (by decide)).trans (HD.out.blk.alloc _)
       have hc6:w6.cell? ⟨r,2,none⟩=some rv:=Row.cell hblk6 2
       have hf6:w6.frozen? ⟨r,2,none⟩=false:=Row.free hblk6 2
       have hfin:=Lib.hid ((HD.out.keep ((Below.refl _ _).alloc (Nat.le_refl _) _)).addRow (x:=⟨s,k,[],[48],[]⟩) rfl hown6 hgr6)
       have hbz:=Lib.hid ((((HW.out.1.trans HB9.out).alloc hBs _).grown hgr6 (by simp;omega) fun j hj=>(HD.out.rows.rows.lt hj).1).trans (below_set (p:=⟨r,2,none⟩) (u:=.slice (some ⟨g6,0,none⟩) (rvs.length+1) cp6) hr))
       have HFz:=Lib.hid (((HW.out.2.2.trans HF9.out).trans (Fr.below ((Below.refl _ _).alloc (Nat.le_refl _) _))).trans ((Fr.own (HD.out.rows.rows.alloc _) hgr6 (.inr (.inl rfl))).trans (Fr.same hblk6 (.inl rfl) fun g _ hg=>set_other _ r 2 (.slice (some ⟨g6,0,none⟩) (rvs.length+1) cp6) g hg)))
       clear hblk6 hown6 hgr6 hloc6
       refine Lib.hid ?_
       go_wp2_with fail
       go_end0
       exact ⟨rfl,by rw[HE.out];exact ⟨_,_,_,_,_,_,_,hfin.out⟩,hbz.out,hbz.out.size,HFz.out⟩
   ·have he1:(st7.e != 0)=true:=by simp[he0]
    have HE:Hid (st.row=st7):=by show _=_;rw[hM.out];unfold CSt.rowEnd;rw[if_pos he0]
    clear he0
    go_wp2_with fail
    refine bodyPost_ret (results_none rfl _ _ _) rfl ?_
    exact ⟨rfl,by rw[HE.out];exact HR8.out,HW.out.1,HW.out.2.1,HW.out.2.2⟩
end Go.Proofs.YtjipjfoambbofaaGreatDoor
end
section
namespace Vic
open Go Go.RowKit
theorem CSt.Same.fat {a b:CSt}(h:a.Same b) {n:Nat}(k:b.Fat n):a.Fat n:=fun x hx=>k x (h.1▸hx)
theorem Only.boxed {r bx:Nat}{w w':World}(ho:Only r w w') (hn:bx≠r) (h:Boxed bx r w):Boxed bx r w':=(ho.block bx hn).trans h
end Vic
namespace Go.Proofs.YtjipjfoambbofaaGreatDoor
open Go.RowKit Vic
theorem many35 {B:Nat}{w:World}{r:Nat}{st:CSt}(h:CR B w r st):CR B (w.alloc (.cells #[.int .i64 3,.int .i64 5] 3)) r st∧Calls Tryz.prog 145 #[.pointer (some ⟨r,0,none⟩),.slice (some ⟨w.heap.size,0,none⟩) 2 2] (w.alloc (.cells #[.int .i64 3,.int .i64 5] 3)) (fun e w'=>e=.returned (.tuple #[])∧CR B w' r (st.many [3,5])∧Only r (w.alloc (.cells #[.int .i64 3,.int .i64 5] 3)) w'):=by
 have hk:=h.keep (w':=w.alloc (.cells #[.int .i64 3,.int .i64 5] 3)) ((Below.refl _ _).alloc (Nat.le_refl _) _)
 refine ⟨hk,(core_many hk (.slice (some ⟨w.heap.size,0,none⟩) 2 2) [3,5] ⟨_,_,rfl,Nat.le_refl _,fun i x hx=>?_⟩ (by simp)).mono fun e w' h=>⟨h.1,h.2.1,h.2.2.1⟩⟩
 rcases i with _|_|i
 ·simp at hx;subst hx;exact ⟨_,0,rfl,by unfold IntR;simp⟩
 ·simp at hx;subst hx;exact ⟨_,0,rfl,by unfold IntR;simp⟩
 ·simp at hx
theorem enter_side:∀ args w,(callFunc 149 args).run Tryz.prog w=.ok (.enter 149 args) w:=fun _ _=>by kernel_rfl
theorem side_pairs {B:Nat}{w:World}{r bx:Nat}{st:CSt}(h:CR B w r st) (hB:B≤w.heap.size) (hT:∀ w',Below B w w'→TabE w') (hgood:st.Good) {nf:Nat}(hfat:st.Fat nf) (hat:st.at_=4∨st.at_=5) (hb:Boxed bx r w) :
 Calls Tryz.prog 147 #[.pointer (some ⟨r,0,none⟩),.func (.func 149) #[] #[.pointer (some ⟨bx,0,none⟩)]] w (Turns B r (.tuple #[]) st.pairs w):=
 core_pairs h (hT w (Below.refl _ _)) hB hT hgood hfat (Boxed bx r) hb (fun W W' h1 h2=>h1.fr h2) enter_side fun W sk row q x hc hp hbl hx hq e1 _ _ _ hr h0=>by
  obtain ⟨i,rfl⟩:∃ i:Nat,row=i:=Int.eq_ofNat_of_zero_le (by rcases h0 with h0|h0<;>omega)
  rcases hat with ha|ha
  ·exact core_side_c1 hc (Nat.le_trans hB hbl.size) (hT W hbl).tab hp i q x hx hq (by omega) (e1.trans ha)
  ·exact core_side_c1r hc (Nat.le_trans hB hbl.size) (hT W hbl).tab hp i q x hx hq (by omega) (e1.trans ha)
set_option maxRecDepth 100000 in
set_option maxHeartbeats 8000000 in
theorem core_side {B:Nat}{w:World}{r:Nat}{st:CSt}(h:CR B w r st) (hB:B≤w.heap.size) (hT:∀ w',Below B w w'→TabE w') (hgood:st.Good) {nf:Nat}(hfat:st.Fat nf) (hat:st.at_=4∨st.at_=5) :
 Calls Tryz.prog 78 #[.pointer (some ⟨r,0,none⟩)] w (Turns B r (.tuple #[]) st.side w):=by
 unfold Turns
 have hr:=h.base
 have hrl:=h.lt
 obtain ⟨wa,hwa⟩:∃ X,X=w.alloc (.cells #[.pointer (some ⟨r,0,none⟩)] 87):=⟨_,rfl⟩
 have hba:Below w.heap.size w wa:=by rw[hwa];exact (Below.refl _ _).alloc (Nat.le_refl _) _
 have hxa:Boxed w.heap.size r wa:=by rw[hwa];exact Row.new _ _ _
 obtain ⟨bx,hbx⟩:∃ X,X=w.heap.size:=⟨_,rfl⟩
 have hsa:wa.heap.size=bx+1:=by rw[hwa,hbx];simp
 have hwa2:w.alloc (.cells #[.pointer (some ⟨r,0,none⟩)] 87)=wa:=hwa.symm
 obtain ⟨hk,C1⟩:=many35 (h.keep hba)
 obtain ⟨st1,h1⟩:∃ x,x=st.many [3,5]:=⟨_,rfl⟩
 obtain ⟨s,st2,h2⟩:∃ a b,st1.word=(a,b):=⟨_,_,rfl⟩
 obtain ⟨st3,h3⟩:∃ x,x=st2.fails (!nameB s) 4:=⟨_,rfl⟩
 have hM:Hid (st.side=st3.pairs):=by
  show _=_
  unfold CSt.side
  dsimp only
  rw[← h1,h2]
  dsimp only
  rw[← h3]
 have hsame:st3.Same st:=by
  have z1:st1.Same st:=h1▸CSt.fails_same _ _ _
  have z2:st2.Same st1:=by have:=CSt.word_same st1;rwa [h2]at this
  have z3:st3.Same st2:=h3▸CSt.fails_same _ _ _
  exact z3.trans (z2.trans z1)
 have HG:=Lib.hid (hsame.good hgood)
 have HFA:=Lib.hid (hsame.fat hfat)
 have HAT:Hid (st3.at_=4∨st3.at_=5):=Lib.hid (hsame.2.1▸hat)
 rw[← h1,hsa]at C1
 have HC1:=Lib.hid C1
 have CA:Hid (∀ W,CR B W r st1→Calls Tryz.prog 144 #[.pointer (some ⟨r,0,none⟩)] W (fun e w'=>e=.returned (.string ⟨s.toArray⟩)∧CR B w' r st2∧Only r W w'∧OkWord s)):=Lib.hid fun W hW=>by
  have:=core_word hW
  have hok:=hW.word
  unfold Worded at this
  rw[h2]at this hok
  exact this.mono fun e w' h=>⟨h.1,h.2.1,h.2.2,hok⟩
 have CB:Hid (∀ W b,CR B W r st2→Calls Tryz.prog 80 #[.pointer (some ⟨r,0,none⟩),.bool b,.int .i64 4] W (Noted B r st2 b 4 W)):=Lib.hid fun W b hW=>core_fails hW b 4
 have H3:=Lib.hid h3
 have hbr:bx≠r:=by omega
 have hk0:Hid (CR B w r st):=Lib.hid h
 have HK:=Lib.hid hk
 have hxc:=hxa.cell
 rw[← hbx]at hxa hxc hba
 have hbx2:w.heap.size=bx:=hbx.symm
 have HXA:=Lib.hid hxa
 clear h h1 h2 h3 hk C1 hsame hgood hfat hat hwa hxa hbx
 go_enter Tryz.func78,Tryz.ntmps78
 go_wp2_with fail
 refine HC1.out.mono ?_
 rintro e w1 ⟨rfl,hr1,ho1⟩
 have hx1:Boxed bx r w1:=ho1.boxed hbr ((HXA.out.fr (Fr.below ((Below.refl _ _).alloc (Nat.le_refl _) _))))
 have hxc1:=hx1.cell
 have C2:=Lib.hid (CA.out _ (hr1.keep ((Below.refl _ _).drew)))
 have HR1:=Lib.hid hr1
 have HX1:=Lib.hid hx1
 clear hr1 hx1 HC1 CA
 go_wp2_with fail
 go_region_held3 (fun W=>W.cell? ⟨bx,0,none⟩=some (.pointer (some ⟨r,0,none⟩))) (first|go_keep|assumption|(simpa using hxc1))
  (first
   | (go_at_call 144;refine C2.out.mono ?_;rintro e w2 ⟨rfl,hr2,ho2,hok⟩;have HR2:=Lib.hid hr2;have hxc2:=(ho2.boxed hbr (HX1.out.fr (Fr.below (Below.refl _ _).drew))).cell)
   | (go_at_call 84;refine (words_Name _ _ (Nat.le_trans hok.1 (by omega))).mono ?_;rintro e w3 ⟨rfl,hb3⟩;have hxc3:=cell_keep hxc2 hb3)
   | (go_at_call 80;refine (CB.out _ _ (HR2.out.keep hb3)).mono ?_;rintro e w4 ⟨rfl,hr4,ho4,hx4⟩;clear hx4;have hxc4:=(ho4.boxed hbr ((ho2.boxed hbr (HX1.out.fr (Fr.below (Below.refl _ _).drew))).fr (Fr.below hb3))).cell))
 have b04:Below B w w4:=(((((hba.mono (by omega)).trans ((Below.refl _ _).alloc (by omega) _)).trans (ho1.below hr)).trans (((Below.refl _ _).drew))).trans (ho2.below hr)).trans ((hb3.mono (by have:=ho2.size;have:=ho1.size;simp at *;omega)).trans (ho4.below hr))
 have C5:=Lib.hid (side_pairs (hr4.cast H3.out.symm) (Nat.le_trans hB b04.size) (fun W hW=>hT W (b04.trans hW)) HG.out HFA.out HAT.out ((ho4.boxed hbr ((ho2.boxed hbr (HX1.out.fr (Fr.below (Below.refl _ _).drew))).fr (Fr.below hb3)))))
 have al:∀ (W:World) (o:Obj),Fr W (W.alloc o):=fun W o=>Fr.below ((Below.refl _ _).alloc (Nat.le_refl _) _)
 have on:∀ {W W':World}{s':CSt},CR B W r s'→Only r W W'→Fr W W':=fun hc ho=>hc.frame fun g _ hg=>ho.block g hg
 have HF:Hid (Fr w w4):=Lib.hid (((((((Fr.below (by rw[hbx2];exact hba)).trans (al _ _)).trans (on HK.out ho1)).trans (Fr.below (Below.refl _ _).drew)).trans (on (HR1.out.keep (Below.refl _ _).drew) ho2)).trans (Fr.below hb3)).trans (on (HR2.out.keep hb3) ho4))
 have HB4:Hid (Below B w w4):=Lib.hid b04
 clear hr4 ho4 hb3 hr2 ho2 ho1 hba hxc1 hxc2 hxc3 b04 al on hxc hwa2
 go_wp2_with fail
 refine C5.out.mono ?_
 rintro e w5 ⟨rfl,hr5,hb5,hs5,hf5⟩
 have HR5:=Lib.hid hr5
 have HF5:=Lib.hid hf5
 clear hr5 hf5
 go_wp2_with fail
 go_end0
 exact ⟨rfl,by rw[hM.out];exact HR5.out,HB4.out.trans hb5,Nat.le_trans HB4.out.size hs5,HF.out.trans HF5.out⟩
end Go.Proofs.YtjipjfoambbofaaGreatDoor
end
