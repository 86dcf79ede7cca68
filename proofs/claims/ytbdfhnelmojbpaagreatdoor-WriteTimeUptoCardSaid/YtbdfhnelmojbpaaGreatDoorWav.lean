/- Package period: the reader of a time file: a line. -/
import Derived.Test.YtbdfhnelmojbpaaGreatDoorWau
import Derived.Test.YtbdfhnelmojbpaaGreatDoorWar
import Derived.Test.YtbdfhnelmojbpaaGreatDoorWao
import Derived.Test.YtbdfhnelmojbpaaGreatDoorTextCut
import Derived.Deep.LoopGhost
import Derived.Deep.DeepCutAuto
import Derived.Deep.CutBlock
import Derived.Deep.QuietTactic
import Derived.BigQuiet
import Derived.Test.YtbdfhnelmojbpaaGreatDoorWat
import Derived.Test.YtbdfhnelmojbpaaGreatDoorRows
import Derived.Deep.Slices
import Derived.Deep.Fields
import Derived.Carry
import Derived.ChangeSlices
set_option linter.unusedVariables false
set_option linter.unusedSimpArgs false
section
namespace Vic
open Go Go.RowKit
theorem one_row3 {w:World}{b:Nat}{t:TypeId}{x1 x2 x3:Value}(h:Row w b t #[x1,x2,x3]) (j:Nat) (u:Value) (hj : [x1,x2,x3][j]?=some u):w.cell? ((⟨b,0,none⟩:Addr).add j)=some u:=by
 rcases j with _|_|_|j<;>simp at hj<;>subst hj
 ·exact h.cell 0
 ·exact h.cell 1
 ·exact h.cell 2
theorem PRd.add {w w':World}{B r:Nat}{st:PSt}{pv v':Value}{p:PerM}(h:PRd w B r st pv) (ho:Own w' B 44 3 v' (st.ps.length+1) (st.ps.flatMap encPr ++ encPr p)) (hg:w.grownBy w' pv.ownBlock) :
 Row w' r 127 #[.string ⟨st.name.toArray⟩,pv,.int .i64 (st.at_:Nat)]∧PRd (w'.setCell ⟨r,1,none⟩ v') B r { st with ps:=st.ps ++ [p] } v':=by
 have hr:Row w' r 127 #[.string ⟨st.name.toArray⟩,pv,.int .i64 (st.at_:Nat)]:=(grown_other h.ps hg h.row (by decide)).trans h.row
 refine ⟨hr,by have:=hr.set 1 v';simpa using this,?_,h.low⟩
 have ho2:Own (w'.setCell ⟨r,1,none⟩ v') B 44 3 v' (st.ps.length+1) (st.ps.flatMap encPr ++ encPr p):=ho.stay fun g hg'=>by
  obtain ⟨cur,hc⟩:=ho.typed hg'
  refine set_other w' r 1 v' g (fun e=>?_)
  subst e
  unfold Row at hr
  rw[hc]at hr
  injection hr with hr
  injection hr with _ h2 _
  exact absurd h2 (by decide)
 simpa using ho2
end Vic
namespace Go.Proofs.YtbdfhnelmojbpaaGreatDoor
open Go.RowKit Vic
theorem info_Per0:(Tryz.prog.info? 44).map (fun i=>(i.zero,i.size,i.bytes))=some (some (.agg #[.string ⟨#[]⟩,.string ⟨#[]⟩,.string ⟨#[]⟩]),3,48):=by kernel_rfl
theorem info_Per:∃ i:TypeInfo,Tryz.prog.info? 44=some i∧i.zero=some (.agg #[.string ⟨#[]⟩,.string ⟨#[]⟩,.string ⟨#[]⟩])∧i.size=3∧i.bytes=48:=by
 have h:=info_Per0
 cases hi:Tryz.prog.info? 44 with
 | none=>rw[hi]at h;simp at h
 | some i=>rw[hi]at h;simp at h;exact ⟨i,rfl,h.1,h.2.1,h.2.2⟩
abbrev vprd9_0:Oper:={ dst:=some 41,op:=Go.Op.move (Go.Operand.tmp 0),type:=125,pos:="period.go:55",after:=#[],guard:=none }
abbrev vprd9_1:Oper:={ dst:=some 42,op:=Go.Op.move (Go.Operand.tmp 0),type:=125,pos:="period.go:55",after:=#[],guard:=none }
abbrev vprd9_2:Oper:={ dst:=some 43,op:=Go.Op.nilCheck (Go.Operand.tmp 42),type:=0,pos:="period.go:55",after:=#[{ on:=1,ground:=Go.Ground.data }],guard:=none }
abbrev vprd9_3:Oper:={ dst:=some 44,op:=Go.Op.fieldAddr 127 (Go.Operand.tmp 43) 1,type:=0,pos:="period.go:55",after:=#[{ on:=2,ground:=Go.Ground.data }],guard:=none }
abbrev vprd9_4:Oper:={ dst:=some 45,op:=Go.Op.load 45 (Go.Operand.tmp 44),type:=45,pos:="period.go:55",after:=#[{ on:=3,ground:=Go.Ground.data }],guard:=none }
abbrev vprd9_5:Oper:={ dst:=some 46,op:=Go.Op.move (Go.Operand.tmp 1),type:=88,pos:="period.go:55",after:=#[],guard:=none }
abbrev vprd9_6:Oper:={ dst:=some 47,op:=Go.Op.indexAddr 88 (Go.Operand.tmp 46) (Go.Operand.const (Go.Value.int Go.IntKind.i64 0)),type:=0,pos:="period.go:55",after:=#[{ on:=5,ground:=Go.Ground.data }],guard:=none }
abbrev vprd9_7:Oper:={ dst:=some 48,op:=Go.Op.load 9 (Go.Operand.tmp 47),type:=9,pos:="period.go:55",after:=#[{ on:=6,ground:=Go.Ground.data }],guard:=none }
abbrev vprd9_8:Oper:={ dst:=some 49,op:=Go.Op.move (Go.Operand.tmp 1),type:=88,pos:="period.go:55",after:=#[],guard:=none }
abbrev vprd9_9:Oper:={ dst:=some 50,op:=Go.Op.indexAddr 88 (Go.Operand.tmp 49) (Go.Operand.const (Go.Value.int Go.IntKind.i64 1)),type:=0,pos:="period.go:55",after:=#[{ on:=8,ground:=Go.Ground.data }],guard:=none }
abbrev vprd9_10:Oper:={ dst:=some 51,op:=Go.Op.load 9 (Go.Operand.tmp 50),type:=9,pos:="period.go:55",after:=#[{ on:=9,ground:=Go.Ground.data }],guard:=none }
abbrev vprd9_11:Oper:={ dst:=some 52,op:=Go.Op.move (Go.Operand.tmp 1),type:=88,pos:="period.go:55",after:=#[],guard:=none }
abbrev vprd9_12:Oper:={ dst:=some 53,op:=Go.Op.indexAddr 88 (Go.Operand.tmp 52) (Go.Operand.const (Go.Value.int Go.IntKind.i64 2)),type:=0,pos:="period.go:55",after:=#[{ on:=11,ground:=Go.Ground.data }],guard:=none }
abbrev vprd9_13:Oper:={ dst:=some 54,op:=Go.Op.load 9 (Go.Operand.tmp 53),type:=9,pos:="period.go:55",after:=#[{ on:=12,ground:=Go.Ground.data }],guard:=none }
abbrev vprd9_14:Oper:={ dst:=some 55,op:=Go.Op.build 44 #[(0,Go.Operand.tmp 48),(1,Go.Operand.tmp 51),(2,Go.Operand.tmp 54)],type:=44,pos:="period.go:55",after:=#[{ on:=7,ground:=Go.Ground.data },{ on:=10,ground:=Go.Ground.data },{ on:=13,ground:=Go.Ground.data }],guard:=none }
abbrev vprd9_15:Oper:={ dst:=some 56,op:=Go.Op.buildSlice 45 1 #[(0,Go.Operand.tmp 55)],type:=45,pos:="period.go:55",after:=#[{ on:=14,ground:=Go.Ground.data }],guard:=none }
abbrev vprd9_16:Oper:={ dst:=some 57,op:=Go.Op.call { callee:=Go.Callee.builtin Go.Builtin.append,args:=#[Go.Operand.tmp 45,Go.Operand.tmp 56],argTypes:=#[45,45] },type:=45,pos:="period.go:55",after:=#[{ on:=4,ground:=Go.Ground.data },{ on:=15,ground:=Go.Ground.data }],guard:=none }
abbrev vprd9_17:Oper:={ dst:=some 58,op:=Go.Op.nilCheck (Go.Operand.tmp 41),type:=0,pos:="period.go:55",after:=#[{ on:=0,ground:=Go.Ground.data },{ on:=0,ground:=Go.Ground.phase },{ on:=1,ground:=Go.Ground.phase },{ on:=2,ground:=Go.Ground.phase },{ on:=3,ground:=Go.Ground.phase },{ on:=4,ground:=Go.Ground.phase },{ on:=5,ground:=Go.Ground.phase },{ on:=6,ground:=Go.Ground.phase },{ on:=7,ground:=Go.Ground.phase },{ on:=8,ground:=Go.Ground.phase },{ on:=9,ground:=Go.Ground.phase },{ on:=10,ground:=Go.Ground.phase },{ on:=11,ground:=Go.Ground.phase },{ on:=12,ground:=Go.Ground.phase },{ on:=13,ground:=Go.Ground.phase },{ on:=14,ground:=Go.Ground.phase },{ on:=15,ground:=Go.Ground.phase },{ on:=16,ground:=Go.Ground.phase }],guard:=none }
abbrev vprd9_18:Oper:={ dst:=some 59,op:=Go.Op.fieldAddr 127 (Go.Operand.tmp 58) 1,type:=0,pos:="period.go:55",after:=#[{ on:=17,ground:=Go.Ground.data },{ on:=0,ground:=Go.Ground.phase },{ on:=1,ground:=Go.Ground.phase },{ on:=2,ground:=Go.Ground.phase },{ on:=3,ground:=Go.Ground.phase },{ on:=4,ground:=Go.Ground.phase },{ on:=5,ground:=Go.Ground.phase },{ on:=6,ground:=Go.Ground.phase },{ on:=7,ground:=Go.Ground.phase },{ on:=8,ground:=Go.Ground.phase },{ on:=9,ground:=Go.Ground.phase },{ on:=10,ground:=Go.Ground.phase },{ on:=11,ground:=Go.Ground.phase },{ on:=12,ground:=Go.Ground.phase },{ on:=13,ground:=Go.Ground.phase },{ on:=14,ground:=Go.Ground.phase },{ on:=15,ground:=Go.Ground.phase },{ on:=16,ground:=Go.Ground.phase }],guard:=none }
abbrev vprd9_19:Oper:={ dst:=none,op:=Go.Op.store 45 (Go.Operand.tmp 59) (Go.Operand.tmp 57),type:=0,pos:="period.go:55",after:=#[{ on:=18,ground:=Go.Ground.data },{ on:=16,ground:=Go.Ground.data },{ on:=16,ground:=Go.Ground.chain },{ on:=0,ground:=Go.Ground.phase },{ on:=1,ground:=Go.Ground.phase },{ on:=2,ground:=Go.Ground.phase },{ on:=3,ground:=Go.Ground.phase },{ on:=4,ground:=Go.Ground.phase },{ on:=5,ground:=Go.Ground.phase },{ on:=6,ground:=Go.Ground.phase },{ on:=7,ground:=Go.Ground.phase },{ on:=8,ground:=Go.Ground.phase },{ on:=9,ground:=Go.Ground.phase },{ on:=10,ground:=Go.Ground.phase },{ on:=11,ground:=Go.Ground.phase },{ on:=12,ground:=Go.Ground.phase },{ on:=13,ground:=Go.Ground.phase },{ on:=14,ground:=Go.Ground.phase },{ on:=15,ground:=Go.Ground.phase },{ on:=16,ground:=Go.Ground.phase }],guard:=none }
set_option maxRecDepth 100000 in
set_option maxHeartbeats 8000000 in
theorem period_line {w:World}{B r:Nat}{st:PSt}{pv:Value}(h:PRd w B r st pv) (hB:B≤w.heap.size) (lv:Value) (l:List Txt) (hl:StrsIn w lv l) (h0:l≠[]) (hll:l.length≤1000000) (hok:∀ s∈l,s.length≤1000000) (hat:st.at_≤3) (hpl:st.ps.length≤20) :
 Calls Tryz.prog 51 #[.pointer (some ⟨r,0,none⟩),lv] w (fun e w'=>∃ pv',e=.returned (.int .i64 (st.line l).1)∧PRd w' B r (st.line l).2 pv'∧BL B w w'):=by
 obtain ⟨A,c,rfl,hc,hcell⟩:=hl
 obtain ⟨name,ps,a⟩:=st
 dsimp only at hat hpl
 obtain ⟨res,hres⟩:∃ X,X=(⟨name,ps,a⟩:PSt).line l:=⟨_,rfl⟩
 rw[← hres]
 have HRES:=Lib.hid hres
 clear hres
 have q2:w.cell? ⟨r,2,none⟩=some (.int .i64 (a:Nat)):=h.row.cell 2
 have HP:=Lib.hid h
 have HBW:=Lib.hid hB
 obtain ⟨n,hn⟩:∃ n,n=l.length:=⟨_,rfl⟩
 have HN:=Lib.hid hn
 rw[← hn]at hll hc ⊢
 by_cases ha:a=2
 ·subst ha
  by_cases h3:n=3
  ·subst h3
   obtain ⟨s0,s1,s2,rfl⟩:∃ s0 s1 s2,l = [s0,s1,s2]:=by
    rcases l with _|⟨s0,_|⟨s1,_|⟨s2,_|⟨s3,t⟩⟩⟩⟩<;>simp at hn
    exact ⟨s0,s1,s2,rfl⟩
   obtain ⟨g,o,rfl,e0⟩:=hcell 0 s0 rfl
   obtain ⟨g1,o1,he1,e1⟩:=hcell 1 s1 rfl
   obtain ⟨g2,o2,he2,e2⟩:=hcell 2 s2 rfl
   injection he1 with he1;injection he1 with k1 k2;subst k1 k2
   injection he2 with he2;injection he2 with k1 k2;subst k1 k2
   have d0:w.cell? ⟨g,o,none⟩=some (.string ⟨s0.toArray⟩):=e0
   have d1:w.cell? ⟨g,o+1,none⟩=some (.string ⟨s1.toArray⟩):=e1
   have d2:w.cell? ⟨g,o+2,none⟩=some (.string ⟨s2.toArray⟩):=e2
   have K1:=Lib.hid (fun W=>words_Name W s0 (by have:=hok s0 (by simp);omega))
   have K2:=Lib.hid (fun W=>words_Name W s1 (by have:=hok s1 (by simp);omega))
   have K3:=Lib.hid (fun W=>words_Name W s2 (by have:=hok s2 (by simp);omega))
   obtain ⟨n1,hn1⟩:∃ x,x=nameB s0:=⟨_,rfl⟩
   obtain ⟨n2,hn2⟩:∃ x,x=nameB s1:=⟨_,rfl⟩
   obtain ⟨n3,hn3⟩:∃ x,x=nameB s2:=⟨_,rfl⟩
   rw[← hn1]at K1;rw[← hn2]at K2;rw[← hn3]at K3
   have HM:Hid ((⟨name,ps,2⟩:PSt).line [s0,s1,s2]=if n1 && n2 && n3 then (if 20≤ps.length then (6,⟨name,ps,2⟩)else (0,⟨name,ps ++ [(s0,s1,s2)],2⟩))else (4,⟨name,ps,2⟩)):=Lib.hid (by rw[hn1,hn2,hn3];rfl)
   clear hn1 hn2 hn3 e0 e1 e2 hcell hn h hok h0
   have hcl:∀ W,Below w.heap.size w W→W.cell? ⟨g,o,none⟩=some (.string ⟨s0.toArray⟩)∧W.cell? ⟨g,o+1,none⟩=some (.string ⟨s1.toArray⟩)∧W.cell? ⟨g,o+2,none⟩=some (.string ⟨s2.toArray⟩)∧W.cell? ⟨r,1,none⟩=some pv:=fun W hW=>⟨cell_keep d0 hW,cell_keep d1 hW,cell_keep d2 hW,(HP.out.keep hW).row.cell 1⟩
   have HCL:=Lib.hid hcl
   have HBE:Hid (∀ W,Below w.heap.size w W→BL B w W):=Lib.hid fun W hW=>BL.of hW HBW.out
   clear hcl
   go_enter Tryz.func51,Tryz.ntmps51
   go_wp2_with fail
   refine (K1.out _).mono ?_
   rintro e w1 ⟨rfl,h1⟩
   obtain ⟨x0,x1,x2,x3⟩:=HCL.out w1 h1
   have H1:=Lib.hid h1
   clear h1 d0 d1 d2 q2
   cases n1
   ·go_wp2_with fail
    go_ret
    rw[HRES.out,HM.out]
    exact ⟨_,rfl,HP.out.keep H1.out,HBE.out _ H1.out⟩
   ·go_wp2_with fail
    refine (K2.out _).mono ?_
    rintro e w2 ⟨rfl,h2⟩
    have H2:=Lib.hid (below_seq H1.out h2)
    obtain ⟨y0,y1,y2,y3⟩:=HCL.out w2 H2.out
    clear h2 x0 x1 x2 x3
    cases n2
    ·go_wp2_with fail
     go_ret
     rw[HRES.out,HM.out]
     exact ⟨_,rfl,HP.out.keep H2.out,HBE.out _ H2.out⟩
    ·go_wp2_with fail
     refine (K3.out _).mono ?_
     rintro e w3 ⟨rfl,h3⟩
     have H3:=Lib.hid (below_seq H2.out h3)
     obtain ⟨z0,z1,z2,z3⟩:=HCL.out w3 H3.out
     clear h3 y0 y1 y2 y3
     cases n3
     ·go_wp2_with fail
      go_ret
      rw[HRES.out,HM.out]
      exact ⟨_,rfl,HP.out.keep H3.out,HBE.out _ H3.out⟩
     ·obtain ⟨pA,pc,hpv,-⟩:=HP.out.ps.sl
      subst hpv
      obtain ⟨m,hm⟩:∃ m,m=ps.length:=⟨_,rfl⟩
      have HMM:=Lib.hid hm
      dsimp only at z3
      rw[← hm]at z3 hpl
      clear hm
      by_cases h20:(20:Int)≤(m:Int)
      ·have h20n:20≤ps.length:=by have:=HMM.out;omega
       have HM2:Hid (res=(6,⟨name,ps,2⟩)):=Lib.hid (by rw[HRES.out,HM.out];simp[h20n])
       clear h20n HM
       go_wp2_with fail
       go_ret
       rw[HM2.out]
       exact ⟨_,rfl,HP.out.keep H3.out,HBE.out _ H3.out⟩
      ·have h20':¬ 20≤ps.length:=by have:=HMM.out;omega
       have HM2:Hid (res=(0,⟨name,ps ++ [(s0,s1,s2)],2⟩)):=Lib.hid (by rw[HRES.out,HM.out];simp[h20'])
       have HP3:=Lib.hid (HP.out.keep H3.out)
       obtain ⟨i1,hi1,hz1,hsz1,hby1⟩:=info_Per
       clear h20' HM HRES K1 K2 K3 HP HCL
       go_upto_region 9 with fail
       clear h20
       refine wp_region_U [16,19] (fun W=>Below w3.heap.size w3 W) (by kernel_rfl) ?_
       change wpAnyU _ _ _ _ _ _ _ _ _ (World.drew _)
       obtain ⟨W0,hW0⟩:∃ X,X=(w3).drew:=⟨_,rfl⟩
       rw[← hW0]
       have zz0:Below (w3).heap.size (w3) W0:=by rw[hW0];exact Below.drewN_ (Below.refl _ _) 1
       clear hW0
       refine wpAnyU_pure (i:=0) (oi:=vprd9_0) (v:=.pointer (some ⟨r,0,none⟩)) rfl (by kernel_rfl) (by kernel_rfl) (by kernel_rfl) (fun _ _ _ h=>h) (Or.inl ⟨by kernel_rfl,?_⟩) ?_
       ·intro w _;go_simp<;>first|omega|(intro hh;exfalso;omega)|rfl
       try simp only[Act.put,qa,qb,qc,vprd9_0]
       refine wpAnyU_pure (i:=1) (oi:=vprd9_1) (v:=.pointer (some ⟨r,0,none⟩)) rfl (by kernel_rfl) (by kernel_rfl) (by kernel_rfl) (fun _ _ _ h=>h) (Or.inl ⟨by kernel_rfl,?_⟩) ?_
       ·intro w _;go_simp<;>first|omega|(intro hh;exfalso;omega)|rfl
       try simp only[Act.put,qa,qb,qc,vprd9_1]
       refine wpAnyU_pure (i:=2) (oi:=vprd9_2) (v:=.pointer (some ⟨r,0,none⟩)) rfl (by kernel_rfl) (by kernel_rfl) (by kernel_rfl) (fun _ _ _ h=>h) (Or.inl ⟨by kernel_rfl,?_⟩) ?_
       ·intro w _;go_simp<;>first|omega|(intro hh;exfalso;omega)|rfl
       try simp only[Act.put,qa,qb,qc,vprd9_2]
       refine wpAnyU_pure (i:=3) (oi:=vprd9_3) (v:=.pointer (some ⟨r,1,none⟩)) rfl (by kernel_rfl) (by kernel_rfl) (by kernel_rfl) (fun _ _ _ h=>h) (Or.inl ⟨by kernel_rfl,?_⟩) ?_
       ·intro w _;go_simp<;>first|omega|(intro hh;exfalso;omega)|rfl
       try simp only[Act.put,qa,qb,qc,vprd9_3]
       refine wpAnyU_take (i:=4) (oi:=vprd9_4) (v:=.slice pA m pc) rfl (by kernel_rfl) (by kernel_rfl) (by kernel_rfl) (by kernel_rfl) (fun _ _ _ h=>h) (Or.inl ⟨by kernel_rfl,?_⟩) (zz0) ?_
       ·intro w hSw;have X:=cell_keep z3 hSw;go_simp<;>first|omega|(intro hh;exfalso;omega)|rfl
       try simp only[Act.put,qa,qb,qc,vprd9_4]
       refine wpAnyU_pure (i:=5) (oi:=vprd9_5) (v:=.slice (some ⟨g,o,none⟩) 3 c) rfl (by kernel_rfl) (by kernel_rfl) (by kernel_rfl) (fun _ _ _ h=>h) (Or.inl ⟨by kernel_rfl,?_⟩) ?_
       ·intro w _;go_simp<;>first|omega|(intro hh;exfalso;omega)|rfl
       try simp only[Act.put,qa,qb,qc,vprd9_5]
       refine wpAnyU_pure (i:=6) (oi:=vprd9_6) (v:=.pointer (some ⟨g,o,none⟩)) rfl (by kernel_rfl) (by kernel_rfl) (by kernel_rfl) (fun _ _ _ h=>h) (Or.inl ⟨by kernel_rfl,?_⟩) ?_
       ·intro w _;go_simp<;>first|omega|(intro hh;exfalso;omega)|rfl
       try simp only[Act.put,qa,qb,qc,vprd9_6]
       refine wpAnyU_take (i:=7) (oi:=vprd9_7) (v:=.string ⟨s0.toArray⟩) rfl (by kernel_rfl) (by kernel_rfl) (by kernel_rfl) (by kernel_rfl) (fun _ _ _ h=>h) (Or.inl ⟨by kernel_rfl,?_⟩) (zz0) ?_
       ·intro w hSw;have X:=cell_keep z0 hSw;go_simp<;>first|omega|(intro hh;exfalso;omega)|rfl
       try simp only[Act.put,qa,qb,qc,vprd9_7]
       refine wpAnyU_pure (i:=8) (oi:=vprd9_8) (v:=.slice (some ⟨g,o,none⟩) 3 c) rfl (by kernel_rfl) (by kernel_rfl) (by kernel_rfl) (fun _ _ _ h=>h) (Or.inl ⟨by kernel_rfl,?_⟩) ?_
       ·intro w _;go_simp<;>first|omega|(intro hh;exfalso;omega)|rfl
       try simp only[Act.put,qa,qb,qc,vprd9_8]
       refine wpAnyU_pure (i:=9) (oi:=vprd9_9) (v:=.pointer (some ⟨g,o+1,none⟩)) rfl (by kernel_rfl) (by kernel_rfl) (by kernel_rfl) (fun _ _ _ h=>h) (Or.inl ⟨by kernel_rfl,?_⟩) ?_
       ·intro w _;go_simp<;>first|omega|(intro hh;exfalso;omega)|rfl
       try simp only[Act.put,qa,qb,qc,vprd9_9]
       refine wpAnyU_take (i:=10) (oi:=vprd9_10) (v:=.string ⟨s1.toArray⟩) rfl (by kernel_rfl) (by kernel_rfl) (by kernel_rfl) (by kernel_rfl) (fun _ _ _ h=>h) (Or.inl ⟨by kernel_rfl,?_⟩) (zz0) ?_
       ·intro w hSw;have X:=cell_keep z1 hSw;go_simp<;>first|omega|(intro hh;exfalso;omega)|rfl
       try simp only[Act.put,qa,qb,qc,vprd9_10]
       refine wpAnyU_pure (i:=11) (oi:=vprd9_11) (v:=.slice (some ⟨g,o,none⟩) 3 c) rfl (by kernel_rfl) (by kernel_rfl) (by kernel_rfl) (fun _ _ _ h=>h) (Or.inl ⟨by kernel_rfl,?_⟩) ?_
       ·intro w _;go_simp<;>first|omega|(intro hh;exfalso;omega)|rfl
       try simp only[Act.put,qa,qb,qc,vprd9_11]
       refine wpAnyU_pure (i:=12) (oi:=vprd9_12) (v:=.pointer (some ⟨g,o+2,none⟩)) rfl (by kernel_rfl) (by kernel_rfl) (by kernel_rfl) (fun _ _ _ h=>h) (Or.inl ⟨by kernel_rfl,?_⟩) ?_
       ·intro w _;go_simp<;>first|omega|(intro hh;exfalso;omega)|rfl
       try simp only[Act.put,qa,qb,qc,vprd9_12]
       refine wpAnyU_take (i:=13) (oi:=vprd9_13) (v:=.string ⟨s2.toArray⟩) rfl (by kernel_rfl) (by kernel_rfl) (by kernel_rfl) (by kernel_rfl) (fun _ _ _ h=>h) (Or.inl ⟨by kernel_rfl,?_⟩) (zz0) ?_
       ·intro w hSw;have X:=cell_keep z2 hSw;go_simp<;>first|omega|(intro hh;exfalso;omega)|rfl
       try simp only[Act.put,qa,qb,qc,vprd9_13]
       refine wpAnyU_pure (i:=14) (oi:=vprd9_14) (v:=.agg #[.string ⟨s0.toArray⟩,.string ⟨s1.toArray⟩,.string ⟨s2.toArray⟩]) rfl (by kernel_rfl) (by kernel_rfl) (by kernel_rfl) (fun _ _ _ h=>h) (Or.inl ⟨by kernel_rfl,?_⟩) ?_
       ·intro w _;go_simp<;>first|omega|(intro hh;exfalso;omega)|rfl
       try simp only[Act.put,qa,qb,qc,vprd9_14]
       refine wpAnyU_ready (rs:=[15]) (by kernel_rfl) (by simp) ?_
       apply AllReadyU.cons (o:=vprd9_15) (by kernel_rfl)
       case hs=>exact AllReadyU.nil
       intro K hK
       simp only[vprd9_15]
       go_simp
       obtain ⟨V3,h3⟩:∃ X,X=W0.alloc (.cells #[.string ⟨s0.toArray⟩,.string ⟨s1.toArray⟩,.string ⟨s2.toArray⟩] 44):=⟨_,rfl⟩
       rw[← h3]
       have y3:Below W0.heap.size W0 V3:=by rw[h3];exact (Below.refl _ _).alloc (Nat.le_refl _) _
       have nn3:Row V3 W0.heap.size 44 #[.string ⟨s0.toArray⟩,.string ⟨s1.toArray⟩,.string ⟨s2.toArray⟩]:=by rw[h3];exact Row.new _ _ _
       have z4:=below_seq zz0 y3
       clear h3
       refine hK.out _ _ (fun _ _=>z4) ?_
       clear hK K
       try simp only[Act.put,qa,qb,qc]
       refine wpAnyU_ready (rs:=[16]) (by kernel_rfl) (by simp) ?_
       apply AllReadyU.cons (o:=vprd9_16) (by kernel_rfl)
       case hs=>exact AllReadyU.nil
       intro K hK
       have IN:=HP3.out.keep z4
       refine step_append_ownK (Kd:=fun _=>True) rfl (.tmp 45) (.tmp 56) 45 rfl B 44 i1 _ 3 Tryz.underlying45 hi1 hz1 hsz1 rfl (by omega) (.slice pA m pc) m (ps.flatMap encPr) rfl (by rw[HMM.out];exact IN.ps) ⟨W0.heap.size,0,none⟩ 1 1 [.string ⟨s0.toArray⟩,.string ⟨s1.toArray⟩,.string ⟨s2.toArray⟩] rfl rfl (one_row3 nn3) (by simp[Value.oneCell']) (by simp) (by simp) (by omega) (by unfold maxLen;omega) (by rw[hby1];omega) (Nat.le_of_lt (Nat.lt_of_le_of_lt IN.low IN.row.lt)) ?_
       intro v4 V4 ow4 gr4 lc4
       obtain ⟨g4,cp4,rfl⟩:=OwnK.shape ow4 (by omega)
       have hAD:=IN.add (p:=(s0,s1,s2)) (by rw[HMM.out]at ow4;exact ow4) (by rw[HMM.out]at gr4;exact gr4)
       have hr4:=hAD.1
       have HNX:=Lib.hid hAD.2
       have HBX:=Lib.hid (((HBE.out _ (below_seq H3.out z4)).grown IN.ps (by rw[HMM.out]at gr4;exact gr4) (Nat.le_of_lt (Nat.lt_of_le_of_lt IN.low IN.row.lt))).set hr4 IN.low 1 (.slice (some ⟨g4,0,none⟩) (m+1) cp4))
       refine hK.out _ _ (fun h=>absurd (by decide) h) ?_
       clear hK K
       try simp only[Act.put,qa,qb,qc]
       refine wpAnyU_pure (i:=17) (oi:=vprd9_17) (v:=.pointer (some ⟨r,0,none⟩)) rfl (by kernel_rfl) (by kernel_rfl) (by kernel_rfl) (fun _ _ _ h=>h) (Or.inl ⟨by kernel_rfl,?_⟩) ?_
       ·intro w _;go_simp<;>first|omega|(intro hh;exfalso;omega)|rfl
       try simp only[Act.put,qa,qb,qc,vprd9_17]
       refine wpAnyU_pure (i:=18) (oi:=vprd9_18) (v:=.pointer (some ⟨r,1,none⟩)) rfl (by kernel_rfl) (by kernel_rfl) (by kernel_rfl) (fun _ _ _ h=>h) (Or.inl ⟨by kernel_rfl,?_⟩) ?_
       ·intro w _;go_simp<;>first|omega|(intro hh;exfalso;omega)|rfl
       try simp only[Act.put,qa,qb,qc,vprd9_18]
       refine wpAnyU_ready (rs:=[19]) (by kernel_rfl) (by simp) ?_
       apply AllReadyU.cons (o:=vprd9_19) (by kernel_rfl)
       case hs=>exact AllReadyU.nil
       intro K hK
       simp only[vprd9_19]
       have k1:V4.cell? ⟨r,1,none⟩=some (.slice pA m pc):=by have:=hr4.cell 1;rw[← HMM.out]at this;exact this
       have k2:=hr4.free 1
       go_simp
       refine hK.out _ _ (fun h=>absurd (by decide) h) ?_
       clear hK K
       try simp only[Act.put,qa,qb,qc]
       refine wpAnyU_done (by kernel_rfl) ?_ _
       clear k1 k2 hr4 hAD ow4 gr4 lc4 IN nn3 y3 z4
       go_wp2_with fail
       go_ret
       rw[HM2.out]
       exact ⟨rfl,⟨_,by rw[HMM.out];exact HNX.out⟩,HBX.out⟩
  ·have h3i:((n:Int) != 3)=true:=by simp;omega
   have hm:(⟨name,ps,2⟩:PSt).line l=(1,⟨name,ps,2⟩):=by
    unfold PSt.line
    rw[if_neg (by simp),if_pos (by rw[← HN.out];exact h3)]
   have HM:=Lib.hid hm
   clear hm h3 hn h hcell hok h0
   go_enter Tryz.func51,Tryz.ntmps51
   go_wp2_with fail
   go_ret
   rw[HRES.out,HM.out]
   exact ⟨_,rfl,HP.out,BL.of (Below.refl _ _) HBW.out⟩
 ·have hai:(((a:Nat):Int) != 2)=true:=by simp;omega
  have hm:(⟨name,ps,a⟩:PSt).line l=(5,⟨name,ps,a⟩):=by
   unfold PSt.line
   rw[if_pos ha]
  have HM:=Lib.hid hm
  clear hm ha hn h hcell hok h0
  go_enter Tryz.func51,Tryz.ntmps51
  go_wp2_with fail
  go_ret
  rw[HRES.out,HM.out]
  exact ⟨_,rfl,HP.out,BL.of (Below.refl _ _) HBW.out⟩
end Go.Proofs.YtbdfhnelmojbpaaGreatDoor
end
section
namespace Vic
open Go Go.RowKit
theorem flds_small {p:UInt8→Bool}:∀ (s cur:Txt),(fldsP p s cur).length≤s.length+1∧∀ x∈fldsP p s cur,x.length≤cur.length+s.length
 | [],cur=>by
   unfold fldsP
   split
   ·exact ⟨by simp,fun x hx=>by cases hx⟩
   ·exact ⟨by simp,fun x hx=>by rw[List.mem_singleton.1 hx];exact Nat.le_refl _⟩
 | a :: s,cur=>by
   obtain ⟨h1,h2⟩:=flds_small (p:=p) s []
   obtain ⟨h3,h4⟩:=flds_small (p:=p) s (cur ++ [a])
   unfold fldsP
   split
   ·split
    ·exact ⟨by simp;omega,fun x hx=>by have:=h2 x hx;simp at this ⊢;omega⟩
    ·refine ⟨by simp;omega,fun x hx=>?_⟩
     rcases List.mem_cons.1 hx with rfl|hx
     ·omega
     ·have:=h2 x hx;simp at this ⊢;omega
   ·exact ⟨by simp;omega,fun x hx=>by have:=h4 x hx;simp at this ⊢;omega⟩
def PerLine (x:LineM):Prop:=x.words≠[]∧x.words.length≤201∧∀ s∈x.words,s.length≤200
theorem lineOf_per {no:Nat}{s:Txt}(h:lookB s=0):∀ x∈lineOf no s,PerLine x:=by
 intro x hx
 unfold lineOf at hx
 split at hx
 ·cases hx
 ·rename_i hn
  rw[List.mem_singleton.1 hx]
  have hl:s.length≤200:=by
   unfold lookB at h
   split at h
   ·cases h
   ·omega
  obtain ⟨h1,h2⟩:=flds_small (p:=blankC) s []
  exact ⟨fun e=>hn (.inl e),Nat.le_trans h1 (by omega),fun y hy=>by have:=h2 y hy;simp at this;omega⟩
theorem getFrom_per:∀ (ls:List Txt) (no:Nat) (acc:List LineM),(∀ x∈acc,PerLine x)→acc.length<no→acc.length≤2500→(∀ x∈(getFrom no ls acc).1,PerLine x)∧(getFrom no ls acc).1.length≤2500
 | [],no,acc,h1,h2,h3=>⟨h1,h3⟩
 | s :: ls,no,acc,h1,h2,h3=>by
   unfold getFrom
   split
   ·exact ⟨fun x hx=>(by cases hx),Nat.zero_le _⟩
   ·split
    ·exact ⟨fun x hx=>(by cases hx),Nat.zero_le _⟩
    ·rename_i hno hlook
     have hl:(lineOf no s).length≤1:=by unfold lineOf;split<;>simp
     have hlk:lookB s=0:=Classical.not_not.1 hlook
     refine getFrom_per ls (no+1) _ (fun x hx=>?_) (by rw[List.length_append];omega) (by rw[List.length_append];omega)
     rcases List.mem_append.1 hx with hx|hx
     ·exact h1 x hx
     ·exact lineOf_per hlk x hx
theorem wordsGet_per (t:Txt):(∀ x∈(wordsGet t).1,PerLine x)∧(wordsGet t).1.length≤2500:=getFrom_per _ 1 [] (fun x hx=>by cases hx) (by simp) (by simp)
theorem PSt.step_in (st:PSt) (x:LineM) (h:st.at_≤3∧st.ps.length≤20):(st.step x).2.at_≤3∧(st.step x).2.ps.length≤20:=by
 unfold PSt.step
 split
 ·unfold PSt.head
  split
  ·exact h
  ·rename_i hh
   have h3:st.at_<3:=Nat.lt_of_not_le fun e=>hh (.inl e)
   dsimp only
   split
   ·exact ⟨by simp;omega,h.2⟩
   ·split
    ·split
     ·exact ⟨by simp;omega,h.2⟩
     ·exact ⟨by simp;omega,h.2⟩
    ·exact ⟨by simp;omega,h.2⟩
 ·unfold PSt.line
  split
  ·exact h
  ·split
   ·exact h
   ·split
    ·split
     ·exact h
     ·exact ⟨h.1,by simp;omega⟩
    ·exact h
def TimeGot (t:Txt) (w:World) (e:Ending) (w':World):Prop:=∃ (pv:Value) (B:Nat),e=.returned (.tuple #[.string ⟨(timeGet t).1.toArray⟩,pv,.int .i64 ((timeGet t).2.2.1:Nat),.int .i64 (timeGet t).2.2.2])∧w.heap.size≤B∧Own w' B 44 3 pv (timeGet t).2.1.length ((timeGet t).2.1.flatMap encPr)∧Below w.heap.size w w'
end Vic
namespace Go.Proofs.YtbdfhnelmojbpaaGreatDoor
open Go.RowKit Vic
theorem period_turn {w:World}{B r:Nat}{st:PSt}{pv:Value}(h:PRd w B r st pv) (hB:B≤w.heap.size) (lv:Value) (l:List Txt) (hl:StrsIn w lv l) (hx:l≠[]∧l.length≤201∧∀ s∈l,s.length≤200) (hi:st.at_≤3∧st.ps.length≤20) (no:Nat) (hd:Bool) :
 Calls Tryz.prog (if hd then 50 else 51) #[.pointer (some ⟨r,0,none⟩),lv] w (fun e w'=>∃ pv',e=.returned (.int .i64 (st.step ⟨no,hd,l⟩).1)∧PRd w' B r (st.step ⟨no,hd,l⟩).2 pv'∧BL B w w'):=by
 cases hd
 ·exact period_line h hB lv l hl hx.1 (by have:=hx.2.1;omega) (fun s hs=>by have:=hx.2.2 s hs;omega) hi.1 hi.2
 ·refine (period_head h hB lv l hl hx.1 (by have:=hx.2.1;omega) (fun s hs=>by have:=hx.2.2 s hs;omega) hi.1 ?_).mono ?_
  ·intro o s hc ho
   obtain ⟨pA,pc,hpv,-⟩:=h.ps.sl
   subst hpv
   rw[h.row.cell o]at hc
   rcases o with _|_|_|o
   ·exact ho rfl
   ·simp at hc
   ·simp at hc
   ·simp at hc
  ·rintro e w' ⟨rfl,h1,h2⟩
   exact ⟨pv,rfl,h1,h2⟩
theorem results_tmp4 {fn:Func}{t u v x:Tmp}(h:fn.results=#[.tmp t,.tmp u,.tmp v,.tmp x]) (tmps:Array Value) (P:Program) (w:World) :
 (results fn tmps).run P w=.ok (.tuple #[tmps.getD t undef,tmps.getD u undef,tmps.getD v undef,tmps.getD x undef]) w:=by
 simp[results,h]
set_option maxRecDepth 100000 in
set_option maxHeartbeats 8000000 in
theorem period_Get (w:World) (t:Txt) (ht:Tab w) (hs:t.length≤4294967280):Calls Tryz.prog 16 #[.string ⟨t.toArray⟩] w (TimeGot t w):=by
 unfold TimeGot
 obtain ⟨hok,hlen⟩:=wordsGet_per t
 have hM:Hid (timeGet t=if (wordsGet t).2.2≠0 then ([],[],(wordsGet t).2.1,(wordsGet t).2.2)else timeRun (wordsGet t).1 ⟨[],[],0⟩):=rfl
 have CW0:=words_Get w t ht hs
 unfold WordsGot at CW0
 rcases hR:wordsGet t with ⟨ls,no,er⟩
 rw[hR]at CW0 hM hok hlen
 dsimp only at CW0 hM hok hlen
 have CW:=Lib.hid CW0
 have HOK:=Lib.hid hok
 have HLEN:=Lib.hid hlen
 clear CW0 hR hok hlen ht hs
 go_enter Tryz.func16,Tryz.ntmps16
 go_wp2_with fail
 refine CW.out.mono ?_
 rintro e w1 ⟨v,rfl,hls,hb1⟩
 have HLS:=Lib.hid hls
 have B1:Hid (Below w.heap.size w w1):=Lib.hid hb1
 have B1lt:Hid (w.heap.size≤w1.heap.size):=Lib.hid hb1.size
 clear hls hb1 CW
 by_cases h0:er=0
 ·subst h0
  obtain ⟨A,cp,rfl,hlc,_⟩:=id HLS.out
  go_wp2_with fail
  obtain ⟨w5,hw5⟩:∃ X,X=w1.alloc (.cells #[.string ⟨#[]⟩,.slice none 0 0,.int .i64 0] 127):=⟨_,rfl⟩
  obtain ⟨r,hr⟩:∃ r,r=w1.heap.size:=⟨_,rfl⟩
  have hb5:Below w1.heap.size w1 w5:=by rw[hw5];exact (Below.refl _ _).alloc (Nat.le_refl _) _
  have hrd:PRd w5 w1.heap.size r ⟨[],[],0⟩ (.slice none 0 0):=by
   rw[hr,hw5]
   exact ⟨Row.new _ _ _,OwnK.nil_ _ _ _ _ _,Nat.le_refl _⟩
  rw[← hw5]
  have HRD:=Lib.hid hrd
  have hrB:w1.heap.size≤r:=by omega
  rw[← hr]
  clear hw5 hr hrd
  go_loopg [26] ls.length (fun g u wr=>∃ (k:Nat) (st:PSt) (pv:Value),u=.int .i64 k∧k+g=ls.length∧Hid (PRd wr w1.heap.size r st pv)∧Hid (st.at_≤3∧st.ps.length≤20)∧Hid (timeRun ls ⟨[],[],0⟩=timeRun (ls.drop k) st)∧Below w1.heap.size w1 wr)
  case atStart=>exact ⟨0,⟨[],[],0⟩,_,rfl,by omega,HRD,Lib.hid ⟨by simp,by simp⟩,Lib.hid rfl,hb5⟩
  case round=>
   obtain ⟨k,st,pv,rfl,hk,HC,HI,HR,hbr⟩:=hrel
   clear hb5 HRD
   by_cases hlt:k<ls.length
   ·obtain ⟨x,hx⟩:∃ x,ls[k]?=some x:=⟨ls[k],by simp[hlt]⟩
    have hLSr:=HLS.out.keep LineR.firm hbr
    obtain ⟨A',cp',eA,_,hcell⟩:=hLSr
    injection eA with e1 _ e3
    subst e1;subst e3
    obtain ⟨g,o,rfl,v,hc0,hc1,hc2,hv⟩:=hcell k x hx
    have hox:=HOK.out x (List.mem_of_getElem? hx)
    obtain ⟨no_,hd,ws⟩:=x
    obtain ⟨vA,vc,rfl,hvl,_⟩:=id hv
    dsimp only at hc0 hc1 hc2 hvl
    obtain ⟨wl,hwl⟩:∃ X,X=wr.alloc (.cells #[.int .i64 (no_:Nat),.bool hd,.slice vA ws.length vc] 90):=⟨_,rfl⟩
    have HX:=Lib.hid hx
    have hrow:Row wl wr.heap.size 90 #[.int .i64 (no_:Nat),.bool hd,.slice vA ws.length vc]:=by rw[hwl];exact Row.new _ _ _
    have hbl1:Below wr.heap.size wr wl:=by rw[hwl];exact (Below.refl _ _).alloc (Nat.le_refl _) _
    have hblw:Below w1.heap.size wr wl:=hbl1.mono hbr.size
    have hkn:k≤2500:=by have:=HLEN.out;omega
    have CL:=Lib.hid (period_turn (HC.out.keep hbl1) (Nat.le_trans hbr.size hblw.size) (.slice vA ws.length vc) ws (hv.keep StrR.firm hbl1) hox HI.out no_ hd)
    obtain ⟨er1,her1⟩:∃ X,X=(st.step ⟨no_,hd,ws⟩).1:=⟨_,rfl⟩
    obtain ⟨st1,hst1⟩:∃ X,X=(st.step ⟨no_,hd,ws⟩).2:=⟨_,rfl⟩
    rw[← her1,← hst1]at CL
    have HI1:Hid (st1.at_≤3∧st1.ps.length≤20):=by rw[hst1];exact Lib.hid (PSt.step_in _ _ HI.out)
    have HR1:Hid (timeRun ls ⟨[],[],0⟩=if er1≠0 then ([],[],no_,er1)else if st1.at_=3 then (st1.name,st1.ps,0,0)else timeRun (ls.drop (k+1)) st1):=by
     show _=_
     rw[HR.out,List.drop_eq_getElem_cons hlt,show ls[k]=⟨no_,hd,ws⟩from (List.getElem?_eq_some_iff.1 HX.out).2,timeRun,← her1,← hst1]
    have hk0:=hrow.cell 0
    have hk1:=hrow.cell 1
    have hk2:=hrow.cell 2
    have HROWL:=Lib.hid hrow
    have hbx:Hid (Below w1.heap.size w1 wl):=Lib.hid (hbr.trans hblw)
    clear hst1 her1 hbl1 HI HR hrow hx hox hv hcell
    go_upto_region 8 with fail
    rw[← hwl]
    clear hwl HC
    obtain ⟨bl,hblq⟩:∃ b,b=wr.heap.size:=⟨_,rfl⟩
    rw[← hblq]at hk0 hk1 hk2 HROWL ⊢
    clear hblq hc0 hc1 hc2 hblw hbr
    cases hd
    ·go_wp2_with fail
     refine CL.out.mono ?_
     rintro e w9 ⟨pv',rfl,hp9,hb9⟩
     have HP9:=Lib.hid hp9
     have hrow9:=hb9.ln _ _ HROWL.out
     have hn9:w9.cell? ⟨bl,0,none⟩=some (.int .i64 (no_:Nat)):=hrow9.cell 0
     have hq0:w9.cell? ⟨r,0,none⟩=some (.string ⟨st1.name.toArray⟩):=hp9.row.cell 0
     have hq2:w9.cell? ⟨r,2,none⟩=some (.int .i64 (st1.at_:Nat)):=hp9.row.cell 2
     obtain ⟨pA,pc,hpv,-⟩:=hp9.ps.sl
     subst hpv
     have hq1:w9.cell? ⟨r,1,none⟩=some (.slice pA st1.ps.length pc):=hp9.row.cell 1
     have b9:Hid (Below w1.heap.size w1 w9):=Lib.hid (hbx.out.trans hb9.bel)
     have B9:=Lib.hid (below_seq B1.out b9.out)
     clear hp9 hb9 hrow9 CL hk0 hk1 hk2 hbx HROWL
     by_cases h0:er1=0
     ·have h01:(er1 != 0)=false:=by simp[h0]
      have H0:=Lib.hid h0
      clear h0
      by_cases h3:st1.at_=3
      ·have HR2:Hid (timeRun ls ⟨[],[],0⟩=(st1.name,st1.ps,0,0)):=by show _=_;rw[HR1.out,if_neg (by simp[H0.out]),if_pos h3]
       rw[h3]at hq2
       clear h3 HR1 hn9
       go_upto_region 14 with fail
       go_region_held3 (fun W=>W.cell? ⟨r,0,none⟩=some (.string ⟨st1.name.toArray⟩)∧W.cell? ⟨r,1,none⟩=some (.slice pA st1.ps.length pc)) (first|go_keep|(exact ⟨hq0,hq1⟩)) (fail)
       go_wp2_with fail
       refine bodyPost_ret (results_tmp4 rfl _ _ _) rfl ?_
       rw[hM.out,if_neg (by simp),HR2.out]
       exact ⟨_,_,rfl,B1lt.out,HP9.out.ps.keep (Below.refl _ _).drew,B9.out.trans (Below.refl _ _).drew⟩
      ·have h31:(((st1.at_:Nat):Int) == 3)=false:=by simp;omega
       have HR2:Hid (timeRun ls ⟨[],[],0⟩=timeRun (ls.drop (k+1)) st1):=by show _=_;rw[HR1.out,if_neg (by simp[H0.out]),if_neg h3]
       have HK:=Lib.hid hk
       clear hk h3 hn9
       go_wp2_with fail
       go_roundg (gk - 1)
       case measure=>have:=HK.out;omega
       case rel=>exact ⟨k+1,st1,_,by go_num,by have:=HK.out;omega,HP9,HI1,HR2,b9.out⟩
     ·have h01:(er1 != 0)=true:=by simp[h0]
      have HR2:Hid (timeRun ls ⟨[],[],0⟩=([],[],no_,er1)):=by show _=_;rw[HR1.out,if_pos h0]
      clear h0 HR1 hq0 hq1 hq2
      go_upto_region 12 with fail
      go_region_held3 (fun W=>W.cell? ⟨bl,0,none⟩=some (.int .i64 (no_:Nat))) (first|go_keep|(exact hn9)) (fail)
      go_wp2_with fail
      refine bodyPost_ret (results_tmp4 rfl _ _ _) rfl ?_
      rw[hM.out,if_neg (by simp),HR2.out]
      exact ⟨_,_,rfl,Nat.le_refl _,OwnK.nil_ _ _ _ _ _,B9.out.trans (Below.refl _ _).drew⟩
    ·go_wp2_with fail
     refine CL.out.mono ?_
     rintro e w9 ⟨pv',rfl,hp9,hb9⟩
     have HP9:=Lib.hid hp9
     have hrow9:=hb9.ln _ _ HROWL.out
     have hn9:w9.cell? ⟨bl,0,none⟩=some (.int .i64 (no_:Nat)):=hrow9.cell 0
     have hq0:w9.cell? ⟨r,0,none⟩=some (.string ⟨st1.name.toArray⟩):=hp9.row.cell 0
     have hq2:w9.cell? ⟨r,2,none⟩=some (.int .i64 (st1.at_:Nat)):=hp9.row.cell 2
     obtain ⟨pA,pc,hpv,-⟩:=hp9.ps.sl
     subst hpv
     have hq1:w9.cell? ⟨r,1,none⟩=some (.slice pA st1.ps.length pc):=hp9.row.cell 1
     have b9:Hid (Below w1.heap.size w1 w9):=Lib.hid (hbx.out.trans hb9.bel)
     have B9:=Lib.hid (below_seq B1.out b9.out)
     clear hp9 hb9 hrow9 CL hk0 hk1 hk2 hbx HROWL
     by_cases h0:er1=0
     ·have h01:(er1 != 0)=false:=by simp[h0]
      have H0:=Lib.hid h0
      clear h0
      by_cases h3:st1.at_=3
      ·have HR2:Hid (timeRun ls ⟨[],[],0⟩=(st1.name,st1.ps,0,0)):=by show _=_;rw[HR1.out,if_neg (by simp[H0.out]),if_pos h3]
       rw[h3]at hq2
       clear h3 HR1 hn9
       go_upto_region 14 with fail
       go_region_held3 (fun W=>W.cell? ⟨r,0,none⟩=some (.string ⟨st1.name.toArray⟩)∧W.cell? ⟨r,1,none⟩=some (.slice pA st1.ps.length pc)) (first|go_keep|(exact ⟨hq0,hq1⟩)) (fail)
       go_wp2_with fail
       refine bodyPost_ret (results_tmp4 rfl _ _ _) rfl ?_
       rw[hM.out,if_neg (by simp),HR2.out]
       exact ⟨_,_,rfl,B1lt.out,HP9.out.ps.keep (Below.refl _ _).drew,B9.out.trans (Below.refl _ _).drew⟩
      ·have h31:(((st1.at_:Nat):Int) == 3)=false:=by simp;omega
       have HR2:Hid (timeRun ls ⟨[],[],0⟩=timeRun (ls.drop (k+1)) st1):=by show _=_;rw[HR1.out,if_neg (by simp[H0.out]),if_neg h3]
       have HK:=Lib.hid hk
       clear hk h3 hn9
       go_wp2_with fail
       go_roundg (gk - 1)
       case measure=>have:=HK.out;omega
       case rel=>exact ⟨k+1,st1,_,by go_num,by have:=HK.out;omega,HP9,HI1,HR2,b9.out⟩
     ·have h01:(er1 != 0)=true:=by simp[h0]
      have HR2:Hid (timeRun ls ⟨[],[],0⟩=([],[],no_,er1)):=by show _=_;rw[HR1.out,if_pos h0]
      clear h0 HR1 hq0 hq1 hq2
      go_upto_region 12 with fail
      go_region_held3 (fun W=>W.cell? ⟨bl,0,none⟩=some (.int .i64 (no_:Nat))) (first|go_keep|(exact hn9)) (fail)
      go_wp2_with fail
      refine bodyPost_ret (results_tmp4 rfl _ _ _) rfl ?_
      rw[hM.out,if_neg (by simp),HR2.out]
      exact ⟨_,_,rfl,Nat.le_refl _,OwnK.nil_ _ _ _ _ _,B9.out.trans (Below.refl _ _).drew⟩
   ·obtain rfl:k=ls.length:=by omega
    have HR2:Hid (timeRun ls ⟨[],[],0⟩=([],[],0,5)):=by show _=_;rw[HR.out,List.drop_length];rfl
    have B9:=Lib.hid (below_seq B1.out hbr)
    clear hk HC HI HR hbr
    go_wp2_with fail
    refine bodyPost_ret (results_tmp4 rfl _ _ _) rfl ?_
    rw[hM.out,if_neg (by simp),HR2.out]
    exact ⟨_,_,rfl,Nat.le_refl _,OwnK.nil_ _ _ _ _ _,B9.out⟩
 ·have h1:(er != 0)=true:=by simp[h0]
  go_wp2_with fail
  refine bodyPost_ret (results_tmp4 rfl _ _ _) rfl ?_
  rw[hM.out,if_pos h0]
  exact ⟨_,_,rfl,Nat.le_refl _,OwnK.nil_ _ _ _ _ _,B1.out⟩
end Go.Proofs.YtbdfhnelmojbpaaGreatDoor
end
section
namespace Vic
open Go Go.RowKit
theorem pers_take {w:World}{A:Option Addr}{n c:Nat}{l:List PerM}(h:PersIn w (.slice A n c) l) {k:Nat}(hk:k≤l.length):PersIn w (.slice A k c) (l.take k):=by
 obtain ⟨A',c',e,h2,h3⟩:=h
 injection e with e1 e2 e3
 subst e1;subst e3
 have hl:(l.take k).length=k:=by rw[List.length_take,Nat.min_eq_left hk]
 refine ⟨A,c,by rw[hl],by rw[hl];omega,fun i x hx=>?_⟩
 have hi:i<k:=by have:=(List.getElem?_eq_some_iff.1 hx).1;omega
 rw[List.getElem?_take_of_lt hi]at hx
 exact h3 i x hx
theorem own_pers {w:World}{B:Nat}{v:Value}{l:List PerM}(h:Own w B 44 3 v l.length (l.flatMap encPr)):PersIn w v l:=
 OwnK.slIn encPr_len h fun g i x hx hk=>⟨by simpa using hk 0 _ rfl,hk 1 _ rfl,hk 2 _ rfl⟩
theorem timeBad_not (name:Txt) (ps:List PerM):timeBad name ps.length ps = !((nameB name && decide (ps.length≤20)) && ps.all okPer):=by
 unfold timeBad
 have e:(ps.any fun p=>!okPer p) = !ps.all okPer:=by rw[List.not_all_eq_any_not]
 rw[e]
 have e2:decide (20<ps.length) = !decide (ps.length≤20):=by simp only[← decide_not,Nat.not_le]
 rw[e2]
 cases nameB name<;>cases decide (ps.length≤20)<;>cases ps.all okPer<;>rfl
end Vic
namespace Go.Proofs.YtbdfhnelmojbpaaGreatDoor
open Go.RowKit Vic
abbrev vwt4_0:Oper:={ dst:=some 18,op:=Go.Op.move (Go.Operand.tmp 0),type:=9,pos:="law.go:262",after:=#[],guard:=none }
abbrev vwt4_1:Oper:={ dst:=some 19,op:=Go.Op.call { callee:=Go.Callee.value (Go.Operand.func 13),args:=#[Go.Operand.tmp 18,Go.Operand.const (Go.Value.int Go.IntKind.i64 25)],argTypes:=#[9,3] },type:=9,pos:="law.go:262",after:=#[{ on:=0,ground:=Go.Ground.data }],guard:=none }
abbrev vwt4_2:Oper:={ dst:=some 20,op:=Go.Op.move (Go.Operand.tmp 1),type:=45,pos:="law.go:262",after:=#[],guard:=none }
abbrev vwt4_3:Oper:={ dst:=some 21,op:=Go.Op.move (Go.Operand.tmp 1),type:=45,pos:="law.go:262",after:=#[],guard:=none }
abbrev vwt4_4:Oper:={ dst:=some 22,op:=Go.Op.call { callee:=Go.Callee.builtin Go.Builtin.len,args:=#[Go.Operand.tmp 21],argTypes:=#[45] },type:=3,pos:="law.go:262",after:=#[{ on:=3,ground:=Go.Ground.data }],guard:=none }
abbrev vwt4_5:Oper:={ dst:=some 23,op:=Go.Op.call { callee:=Go.Callee.builtin Go.Builtin.min,args:=#[Go.Operand.tmp 22,Go.Operand.const (Go.Value.int Go.IntKind.i64 22)],argTypes:=#[3,3] },type:=3,pos:="law.go:262",after:=#[{ on:=4,ground:=Go.Ground.data }],guard:=none }
abbrev vwt4_6:Oper:={ dst:=some 24,op:=Go.Op.slice 45 (Go.Operand.tmp 20) none (some (Go.Operand.tmp 23)) none,type:=45,pos:="law.go:262",after:=#[{ on:=2,ground:=Go.Ground.data },{ on:=5,ground:=Go.Ground.data }],guard:=none }
abbrev vwt4_7:Oper:={ dst:=some 0,op:=Go.Op.assign (Go.Operand.tmp 19),type:=9,pos:="law.go:262",after:=#[{ on:=1,ground:=Go.Ground.data },{ on:=1,ground:=Go.Ground.chain },{ on:=0,ground:=Go.Ground.phase },{ on:=1,ground:=Go.Ground.phase },{ on:=2,ground:=Go.Ground.textOnly Go.Departure.lateStores },{ on:=3,ground:=Go.Ground.textOnly Go.Departure.lateStores },{ on:=4,ground:=Go.Ground.textOnly Go.Departure.lateStoresUnsure },{ on:=5,ground:=Go.Ground.textOnly Go.Departure.lateStoresUnsure },{ on:=6,ground:=Go.Ground.textOnly Go.Departure.lateStoresUnsure }],guard:=none }
abbrev vwt4_8:Oper:={ dst:=some 1,op:=Go.Op.assign (Go.Operand.tmp 24),type:=45,pos:="law.go:262",after:=#[{ on:=6,ground:=Go.Ground.data },{ on:=7,ground:=Go.Ground.chain },{ on:=0,ground:=Go.Ground.phase },{ on:=1,ground:=Go.Ground.phase },{ on:=2,ground:=Go.Ground.phase },{ on:=3,ground:=Go.Ground.phase },{ on:=4,ground:=Go.Ground.phase },{ on:=5,ground:=Go.Ground.phase },{ on:=6,ground:=Go.Ground.phase },{ on:=7,ground:=Go.Ground.phase }],guard:=none }
set_option maxRecDepth 100000 in
set_option maxHeartbeats 8000000 in
theorem law7_WriteTime (w:World) (hT:T7 w) (ht:Tab w) (s0:Txt) (v:Value) (ps:List PerM) (hs0:s0.length≤1048576) (hv:PersIn w v ps) (hpl:ps.length≤1048576) (hps:∀ p∈ps,p.1.length≤1048576∧p.2.1.length≤1048576∧p.2.2.length≤1048576) :
 Calls Tryz.prog 5 #[.string ⟨s0.toArray⟩,v] w (Keeps (.bool true) w):=by
 obtain ⟨pA,pc,rfl,hpc,-⟩:=id hv
 have CB:=Lib.hid (begun7 hT)
 have HT:=Lib.hid ht
 have C1:Hid (∀ W,Calls Tryz.prog 13 #[.string ⟨s0.toArray⟩,.int .i64 (25:Int)] W (Keeps (.string ⟨(s0.take 25).toArray⟩) W)):=Lib.hid fun W=>law_Text W s0 25 (by omega) (by omega)
 have hnl:(s0.take 25).length≤25:=by simp;omega
 obtain ⟨m,hm⟩:∃ m:Nat,m=min ps.length 22:=⟨_,rfl⟩
 have hmi:((m:Nat):Int)=min (ps.length:Int) 22:=by omega
 have hmn:m≤ps.length:=by omega
 have hm22:m≤22:=by omega
 have HP:Hid (PersIn w (.slice pA m pc) (ps.take m)):=Lib.hid (pers_take hv hmn)
 have HL:Hid (∀ p∈ps.take m,p.1.length≤1048576∧p.2.1.length≤1048576∧p.2.2.length≤1048576):=Lib.hid fun p hp=>hps p (List.mem_of_mem_take hp)
 have HTL:Hid ((ps.take m).length=m):=Lib.hid (by show _=_;rw[List.length_take];omega)
 clear hT ht hv hps hm
 go_enter Tryz.func5,Tryz.ntmps5
 go_wp2_with fail
 refine CB.out.mono ?_
 rintro e w1 ⟨rfl,h1⟩
 have B1:=Lib.hid h1
 clear h1 CB
 go_upto_region 4 with fail
 refine wp_region_U [] (fun W=>Below w1.heap.size w1 W) (by kernel_rfl) ?_
 change wpAnyU _ _ _ _ _ _ _ _ _ (World.drew _)
 obtain ⟨W0,hW0⟩:∃ X,X=(w1).drew:=⟨_,rfl⟩
 rw[← hW0]
 have zz0:Below (w1).heap.size (w1) W0:=by rw[hW0];exact Below.drewN_ (Below.refl _ _) 1
 clear hW0
 refine wpAnyU_pure (i:=0) (oi:=vwt4_0) (v:=.string ⟨s0.toArray⟩) rfl (by kernel_rfl) (by kernel_rfl) (by kernel_rfl) (fun _ _ _ h=>h) (Or.inl ⟨by kernel_rfl,?_⟩) ?_
 ·intro w _;go_simp<;>first|omega|(intro hh;exfalso;omega)|rfl|(rw[← hmi,if_pos (by omega)];simp)
 try simp only[Act.put,qa,qb,qc,vwt4_0]
 refine wpAnyU_pure (i:=2) (oi:=vwt4_2) (v:=.slice pA ps.length pc) rfl (by kernel_rfl) (by kernel_rfl) (by kernel_rfl) (fun _ _ _ h=>h) (Or.inl ⟨by kernel_rfl,?_⟩) ?_
 ·intro w _;go_simp<;>first|omega|(intro hh;exfalso;omega)|rfl|(rw[← hmi,if_pos (by omega)];simp)
 try simp only[Act.put,qa,qb,qc,vwt4_2]
 refine wpAnyU_pure (i:=3) (oi:=vwt4_3) (v:=.slice pA ps.length pc) rfl (by kernel_rfl) (by kernel_rfl) (by kernel_rfl) (fun _ _ _ h=>h) (Or.inl ⟨by kernel_rfl,?_⟩) ?_
 ·intro w _;go_simp<;>first|omega|(intro hh;exfalso;omega)|rfl|(rw[← hmi,if_pos (by omega)];simp)
 try simp only[Act.put,qa,qb,qc,vwt4_3]
 refine wpAnyU_pure (i:=4) (oi:=vwt4_4) (v:=.int .i64 ps.length) rfl (by kernel_rfl) (by kernel_rfl) (by kernel_rfl) (fun _ _ _ h=>h) (Or.inl ⟨by kernel_rfl,?_⟩) ?_
 ·intro w _;go_simp<;>first|omega|(intro hh;exfalso;omega)|rfl|(rw[← hmi,if_pos (by omega)];simp)
 try simp only[Act.put,qa,qb,qc,vwt4_4]
 refine wpAnyU_pure (i:=5) (oi:=vwt4_5) (v:=.int .i64 m) rfl (by kernel_rfl) (by kernel_rfl) (by kernel_rfl) (fun _ _ _ h=>h) (Or.inl ⟨by kernel_rfl,?_⟩) ?_
 ·intro w _;go_simp<;>first|omega|(intro hh;exfalso;omega)|rfl|(rw[← hmi,if_pos (by omega)];simp)
 try simp only[Act.put,qa,qb,qc,vwt4_5]
 refine wpAnyU_pure (i:=6) (oi:=vwt4_6) (v:=.slice pA m pc) rfl (by kernel_rfl) (by kernel_rfl) (by kernel_rfl) (fun _ _ _ h=>h) (Or.inl ⟨by kernel_rfl,?_⟩) ?_
 ·intro w _;go_simp<;>first|omega|(intro hh;exfalso;omega)|rfl|(rw[← hmi,if_pos (by omega)];simp)
 try simp only[Act.put,qa,qb,qc,vwt4_6]
 refine wpAnyU_ready (rs:=[1]) (by kernel_rfl) (by simp) ?_
 apply AllReadyU.cons (o:=vwt4_1) (by kernel_rfl)
 case hs=>exact AllReadyU.nil
 intro K hK
 simp only[vwt4_1]
 go_simp
 go_at_call 13
 refine (C1.out _).mono ?_
 rintro e' V2 ⟨rfl,y2⟩
 have z2:=below_seq zz0 y2
 refine hK.out _ _ (fun _ _=>z2) ?_
 clear hK K
 try simp only[Act.put,qa,qb,qc]
 refine wpAnyU_pure (i:=7) (oi:=vwt4_7) (v:=.string ⟨(s0.take 25).toArray⟩) rfl (by kernel_rfl) (by kernel_rfl) (by kernel_rfl) (fun _ _ _ h=>h) (Or.inl ⟨by kernel_rfl,?_⟩) ?_
 ·intro w _;go_simp<;>first|omega|(intro hh;exfalso;omega)|rfl|(rw[← hmi,if_pos (by omega)];simp)
 try simp only[Act.put,qa,qb,qc,vwt4_7]
 refine wpAnyU_pure (i:=8) (oi:=vwt4_8) (v:=.slice pA m pc) rfl (by kernel_rfl) (by kernel_rfl) (by kernel_rfl) (fun _ _ _ h=>h) (Or.inl ⟨by kernel_rfl,?_⟩) ?_
 ·intro w _;go_simp<;>first|omega|(intro hh;exfalso;omega)|rfl|(rw[← hmi,if_pos (by omega)];simp)
 try simp only[Act.put,qa,qb,qc,vwt4_8]
 refine wpAnyU_done (by kernel_rfl) ?_ _
 have Z:=Lib.hid (below_seq B1.out z2)
 clear z2 y2
 obtain ⟨nm,hnm⟩:∃ x,x=s0.take 25:=⟨_,rfl⟩
 rw[← hnm]at hnl ⊢
 obtain ⟨qs,hqs⟩:∃ x,x=ps.take m:=⟨_,rfl⟩
 rw[← hqs]at HP HL HTL
 have HP2:=Lib.hid (HP.out.keep PerR.firm Z.out)
 clear C1 hnm hqs HP hmi hmn hpl hpc hs0
 obtain ⟨n0,hn0⟩:∃ x,x=nameB nm:=⟨_,rfl⟩
 obtain ⟨q0,hq0⟩:∃ x,x=(n0 && decide (m≤20)):=⟨_,rfl⟩
 have CN0:=Lib.hid (fun W=>words_Name W nm (by omega))
 rw[← hn0]at CN0
 have HQ0:=Lib.hid hq0
 have HBAD:Hid (timeBad nm qs.length qs = !(q0 && qs.all okPer)):=by show _=_;rw[timeBad_not,HTL.out,hq0,hn0]
 have HN0:=Lib.hid hn0
 clear hq0 hn0
 obtain ⟨wz,hwz⟩:∃ W,W=V2:=⟨_,rfl⟩
 rw[← hwz]at Z HP2 ⊢
 clear hwz
 go_upto_region 5 with fail
 go_cut [6] (fun t wc=>t=.bool q0∧Below wz.heap.size wz wc)
 case first=>
  cases n0
  ·go_wp2_with fail
   refine (CN0.out _).mono ?_
   rintro e w2 ⟨rfl,h2⟩
   have H2:=Lib.hid h2
   clear h2
   go_wp2_with fail
   go_meet
   exact ⟨by rw[HQ0.out];rfl,H2.out⟩
  ·go_wp2_with fail
   refine (CN0.out _).mono ?_
   rintro e w2 ⟨rfl,h2⟩
   have H2:=Lib.hid h2
   clear h2
   go_wp2_with fail
   go_meet
   exact ⟨by rw[HQ0.out];simp only[Bool.true_and];congr 1;rw[decide_eq_decide];omega,H2.out⟩
 case rest=>
 obtain ⟨rfl,hbc⟩:=hcut
 have Z2:=Lib.hid (below_seq Z.out hbc)
 have HP3:=Lib.hid (HP2.out.keep PerR.firm hbc)
 clear hbc CN0 Z HP2
 go_wp2_with fail
 go_loopg [6,34] m (fun g t u wr=>∃ k:Nat,u=.int .i64 k∧t=.bool (q0 && (qs.take k).all okPer)∧k+g=m∧Hid (Below wc.heap.size wc wr))
 case atStart=>exact ⟨0,rfl,by simp,by omega,Lib.hid (Below.refl _ _)⟩
 case round=>
  obtain ⟨k,rfl,rfl,hk,HBR⟩:=hrel
  by_cases hlt:k<m
  ·obtain ⟨p,hp⟩:∃ p,qs[k]?=some p:=⟨qs[k]'(by rw[HTL.out];exact hlt),by simp⟩
   obtain ⟨A',c',eA,hcap,hcell⟩:=id HP3.out
   injection eA with e1 em e3;clear em
   subst e1;subst e3
   obtain ⟨g,o,rfl,e0,e1,e2⟩:=hcell k p hp
   obtain ⟨l1,l2,l3⟩:=HL.out p (List.mem_of_getElem? hp)
   have HTK:Hid (qs.take (k+1)=qs.take k ++ [p]):=Lib.hid (by rw[List.take_add_one,hp];rfl)
   obtain ⟨qk,hqk⟩:∃ x,x=(q0 && (qs.take k).all okPer):=⟨_,rfl⟩
   obtain ⟨qk1,hqk1⟩:∃ x,x=(q0 && (qs.take (k+1)).all okPer):=⟨_,rfl⟩
   have hqq:qk1=(qk && okPer p):=by rw[hqk1,HTK.out,hqk];simp[Bool.and_assoc]
   have HQK:=Lib.hid hqk1
   rw[← hqk]
   obtain ⟨s1,s2,s3⟩:=p
   dsimp only at e0 e1 e2 l1 l2 l3
   have d0:=cell_keep e0 HBR.out;have d1:=cell_keep e1 HBR.out;have d2:=cell_keep e2 HBR.out
   obtain ⟨n1,hn1⟩:∃ x,x=nameB s1:=⟨_,rfl⟩
   obtain ⟨n2,hn2⟩:∃ x,x=nameB s2:=⟨_,rfl⟩
   obtain ⟨n3,hn3⟩:∃ x,x=nameB s3:=⟨_,rfl⟩
   have HQK1:Hid (qk1=(qk && (n1 && n2 && n3))):=by show _=_;rw[hqq,hn1,hn2,hn3];rfl
   have K1:=Lib.hid (fun W=>words_Name W s1 (by omega))
   have K2:=Lib.hid (fun W=>words_Name W s2 (by omega))
   have K3:=Lib.hid (fun W=>words_Name W s3 (by omega))
   rw[← hn1]at K1;rw[← hn2]at K2;rw[← hn3]at K3
   have HK:=Lib.hid hk
   have hmc:m≤pc:=by rw[HTL.out]at hcap;exact hcap
   have HCH:=Lib.hid hcell
   clear hcell e0 e1 e2 hp hqk hqk1 hqq hn1 hn2 hn3 hk HTK
   go_upto_region 9 with fail
   cases qk
   ·clear d0 d1 d2
    go_wp2_with fail
    go_roundg (gk - 1)
    case measure=>have:=HK.out;omega
    case rel=>exact ⟨k+1,by go_num,by rw[← HQK.out,HQK1.out];rfl,by have:=HK.out;omega,Lib.hid (HBR.out.trans ((Below.refl _ _).mono HBR.out.size))⟩
   ·go_wp2_with fail
    refine (K1.out _).mono ?_
    rintro e w2 ⟨rfl,h2⟩
    have H2:=Lib.hid h2
    have a1:=cell_keep d1 h2;have a2:=cell_keep d2 h2
    clear h2 d0 d1 d2
    cases n1
    ·clear a1 a2
     go_wp2_with fail
     go_roundg (gk - 1)
     case measure=>have:=HK.out;omega
     case rel=>exact ⟨k+1,by go_num,by rw[← HQK.out,HQK1.out];rfl,by have:=HK.out;omega,Lib.hid (HBR.out.trans (H2.out.mono HBR.out.size))⟩
    ·go_wp2_with fail
     refine (K2.out _).mono ?_
     rintro e w3 ⟨rfl,h3⟩
     have H3:=Lib.hid (below_seq H2.out h3)
     have b2:=cell_keep a2 h3
     clear h3 a1 a2
     cases n2
     ·clear b2
      go_wp2_with fail
      go_roundg (gk - 1)
      case measure=>have:=HK.out;omega
      case rel=>exact ⟨k+1,by go_num,by rw[← HQK.out,HQK1.out];rfl,by have:=HK.out;omega,Lib.hid (HBR.out.trans (H3.out.mono HBR.out.size))⟩
     ·go_wp2_with fail
      refine (K3.out _).mono ?_
      rintro e w4 ⟨rfl,h4⟩
      have H4:=Lib.hid (below_seq H3.out h4)
      clear h4 b2
      go_wp2_with fail
      go_roundg (gk - 1)
      case measure=>have:=HK.out;omega
      case rel=>exact ⟨k+1,by go_num,by rw[← HQK.out,HQK1.out];cases n3<;>rfl,by have:=HK.out;omega,Lib.hid (HBR.out.trans (H4.out.mono HBR.out.size))⟩
  ·obtain rfl:k=m:=by omega
   rw[show qs.take k=qs from by rw[← HTL.out,List.take_length]]
   obtain rfl:=HTL.out
   obtain ⟨q,hq⟩:∃ x,x=(q0 && qs.all okPer):=⟨_,rfl⟩
   rw[← hq]at HBAD ⊢
   have hcw:=write_Time wr nm (.slice pA qs.length pc) qs (by omega) (HP3.out.keep PerR.firm HBR.out) (by omega) (fun p hp=>by have:=HL.out p hp;omega)
   rw[HBAD.out]at hcw
   have Z3:=Lib.hid (below_seq Z2.out HBR.out)
   have HP4:=Lib.hid (HP3.out.keep PerR.firm HBR.out)
   have HQ:=Lib.hid hq
   clear hk HBAD HBR HP3 Z2 hq
   cases q
   ·have CW:Hid (Calls Tryz.prog 15 #[.string ⟨nm.toArray⟩,.slice pA qs.length pc] wr (Keeps (.tuple #[.string ⟨#[]⟩,.bool false]) wr)):=Lib.hid (by simpa using hcw)
    clear hcw
    go_wp2_with fail
    refine CW.out.mono ?_
    rintro e w5 ⟨rfl,h5⟩
    have FB:=Lib.hid (below_seq Z3.out h5)
    clear h5
    go_wp2_with fail
    go_ret
    exact ⟨rfl,FB.out⟩
   ·obtain ⟨T,hT⟩:∃ x,x=timeText nm qs:=⟨_,rfl⟩
    have CW:Hid (Calls Tryz.prog 15 #[.string ⟨nm.toArray⟩,.slice pA qs.length pc] wr (Keeps (.tuple #[.string ⟨T.toArray⟩,.bool true]) wr)):=Lib.hid (by rw[hT];simpa using hcw)
    have hq2:q0=true∧qs.all okPer=true:=by have:=HQ.out;simpa using this.symm
    have hq3:n0=true∧qs.length≤20:=by have:=HQ0.out;rw[hq2.1]at this;simpa using this.symm
    have HTG:Hid (timeGet T=(nm,qs,0,0)):=by show _=_;rw[hT];exact time_again (by rw[← HN0.out];exact hq3.1) hq3.2 fun p hp=>List.all_eq_true.1 hq2.2 p hp
    have HTN:Hid (T.length≤4294967280):=by
     have h1:=timeTo_len nm (by omega) qs (fun p hp=>by have:=HL.out p hp;omega)
     have h2:=hq3.2
     show _≤_
     rw[hT,← timeTo_end,List.length_append]
     have h3:(lineT [endataT]).length≤100:=by decide
     omega
    clear hcw hT hq2 hq3
    go_wp2_with fail
    refine CW.out.mono ?_
    rintro e w5 ⟨rfl,h5⟩
    have hcp:=period_Get w5 T (HT.out.keep (below_seq Z3.out h5)) HTN.out
    unfold TimeGot at hcp
    rw[HTG.out]at hcp
    have CP:=Lib.hid hcp
    have Z5:=Lib.hid (below_seq Z3.out h5)
    have HP5:=Lib.hid (HP4.out.keep PerR.firm h5)
    clear h5 hcp
    go_wp2_with fail
    refine CP.out.mono ?_
    rintro e w6 ⟨pv,BB,rfl,hBB,how,h6⟩
    have HI:=Lib.hid (own_pers how)
    obtain ⟨pB,pd,rfl,hpd,hcB⟩:=id HI.out
    obtain ⟨pA',pc',eA,hpc,hcA⟩:=id (HP5.out.keep PerR.firm h6)
    injection eA with e1 em e3
    subst e1;subst e3
    have Z6:=Lib.hid (below_seq Z5.out h6)
    have HCA:=Lib.hid hcA;have HCB:=Lib.hid hcB
    clear em h6 how hBB hcA hcB CP CW
    go_wp2_with fail
    go_loopg [106] qs.length (fun g t wq=>∃ k:Nat,t=.int .i64 k∧k+g=qs.length∧Hid (Below w6.heap.size w6 wq))
    case atStart=>exact ⟨0,rfl,by omega,Lib.hid (Below.refl _ _)⟩
    case round=>
     obtain ⟨k,rfl,hk,HBQ⟩:=hrel
     by_cases hlt:k<qs.length
     ·obtain ⟨p,hp⟩:∃ p,qs[k]?=some p:=⟨qs[k],by simp[hlt]⟩
      obtain ⟨ga,oa,rfl,a0,a1,a2⟩:=HCA.out k p hp
      obtain ⟨gb,ob,rfl,b0,b1,b2⟩:=HCB.out k p hp
      obtain ⟨s1,s2,s3⟩:=p
      dsimp only at a0 a1 a2 b0 b1 b2
      have a0:=cell_keep a0 HBQ.out;have a1:=cell_keep a1 HBQ.out;have a2:=cell_keep a2 HBQ.out
      have b0:=cell_keep b0 HBQ.out;have b1:=cell_keep b1 HBQ.out;have b2:=cell_keep b2 HBQ.out
      have HK:=Lib.hid hk
      clear hp hk
      go_upto_region 20 with fail
      go_region_held3 (fun W=>(W.cell? ⟨ga,oa+k*3,none⟩=some (.string ⟨s1.toArray⟩)∧W.cell? ⟨ga,oa+k*3+1,none⟩=some (.string ⟨s2.toArray⟩)∧W.cell? ⟨ga,oa+k*3+2,none⟩=some (.string ⟨s3.toArray⟩))∧W.cell? ⟨gb,ob+k*3,none⟩=some (.string ⟨s1.toArray⟩)∧W.cell? ⟨gb,ob+k*3+1,none⟩=some (.string ⟨s2.toArray⟩)∧W.cell? ⟨gb,ob+k*3+2,none⟩=some (.string ⟨s3.toArray⟩)) (first|go_keep|(exact ⟨⟨a0,a1,a2⟩,b0,b1,b2⟩)) (fail)
      clear a0 a1 a2 b0 b1 b2
      go_wp2_with fail
      go_roundg (gk - 1)
      case measure=>have:=HK.out;omega
      case rel=>exact ⟨k+1,by go_num,by have:=HK.out;omega,Lib.hid (HBQ.out.trans (Below.refl _ _).drew)⟩
     ·obtain rfl:k=qs.length:=by omega
      have FB:=Lib.hid (below_seq Z6.out HBQ.out)
      go_wp2_with fail
      go_ret
      exact ⟨rfl,FB.out⟩
end Go.Proofs.YtbdfhnelmojbpaaGreatDoor
end
section
namespace Vic
open Go Go.ChangeShapes Go.WideShapes Go.RowKit Go.Deep
variable {H:Type}{enc:TypeId × Value→H}{P:Program}{W:World}
theorem slice_at {t e:TypeId}{v:Value}{r:Reach}{base:Nat}(ht:P.underlying t=some (.slice e)) (h:Value.okWide P W r base t v):∃ A n c,v=.slice A n c:=by
 unfold Value.okWide at h
 rw[ht]at h
 simp only[Cell.okWide,ht]at h
 unfold Cell.ok at h
 rw[ht]at h
 cases v<;>first|exact ⟨_,_,_,rfl⟩|(exfalso;simp at h)
theorem spot_at {a:Addr}{u0:Value}(h:W.cell? (a.add 0)=some u0):a=⟨a.block,a.off,none⟩:=by
 obtain ⟨b,o,s⟩:=a
 cases s with
 | none=>rfl
 | some s=>
   exfalso
   have hs:∀ (x:Addr) (u:Value),x.spot.isSome=true→W.cell? x≠some u:=fun x u hx he=>by
    unfold World.cell? at he
    split at he
    ·simp[hx]at he
    ·cases he
   exact hs _ u0 (by simp[Addr.add]) h
theorem add_none (b o j:Nat):(⟨b,o,none⟩:Addr).add j=⟨b,o+j,none⟩:=by
 rcases j with _|j
 ·rfl
 ·simp[Addr.add]
theorem per_elem {e:TypeId}{f0 f1 f2:Field}(he:P.underlying e=some (.struct #[f0,f1,f2])) (hone:oneCellFields P #[f0,f1,f2]=true) (hC:P.cellsOf e=3)
 (k0:P.underlying f0.type=some .string) (k1:P.underlying f1.type=some .string) (k2:P.underlying f2.type=some .string) {a:Addr}{n:Nat}{cs':List Value}{x:DataW H × List MemPlace}
 (hc:W.cells? 0 a 3=some cs') (ht':DataW.trod enc P W 0 (fun _=>true) true n e cs'=some x) :
 ∃ y:PerM,x.1=.agg [.lit (.string y.1),.lit (.string y.2.1),.lit (.string y.2.2)]∧W.cell? (a.add 0)=some (.string ⟨y.1.toArray⟩)∧W.cell? (a.add 1)=some (.string ⟨y.2.1.toArray⟩)∧W.cell? (a.add 2)=some (.string ⟨y.2.2.toArray⟩):=by
 obtain ⟨ys,m,_,hx,_,hyl,hf⟩:=DataW.trod_struct he ht'
 obtain ⟨_,hcl,hat⟩:=World.cells?_some hc
 obtain ⟨o0,q0⟩:=hone_of hone 0 f0 rfl
 obtain ⟨o1,q1⟩:=hone_of hone 1 f1 rfl
 obtain ⟨o2,q2⟩:=hone_of hone 2 f2 rfl
 match cs',hcl,ys,hyl with
 | [c0,c1,c2],_,[y0,y1,y2],_=>
   have g0:DataW.trod enc P W 0 (fun _=>true) true m f0.type [c0]=some y0:=by simpa [o0,q0]using hf 0 f0 rfl
   have g1:DataW.trod enc P W 0 (fun _=>true) true m f1.type [c1]=some y1:=by simpa [o1,q1]using hf 1 f1 rfl
   have g2:DataW.trod enc P W 0 (fun _=>true) true m f2.type [c2]=some y2:=by simpa [o2,q2]using hf 2 f2 rfl
   obtain ⟨s0,e0,rfl,_⟩:=DataW.trod_string k0 g0
   obtain ⟨s1,e1,rfl,_⟩:=DataW.trod_string k1 g1
   obtain ⟨s2,e2,rfl,_⟩:=DataW.trod_string k2 g2
   have e0:c0=.string s0:=by simpa using e0
   have e1:c1=.string s1:=by simpa using e1
   have e2:c2=.string s2:=by simpa using e2
   subst e0 e1 e2
   refine ⟨(s0.data.toList,s1.data.toList,s2.data.toList),by rw[hx];rfl,?_,?_,?_⟩
   ·exact hat 0 (by decide)
   ·exact hat 1 (by decide)
   ·exact hat 2 (by decide)
theorem bulk_one {H:Type}(d:DataW H):1≤Go.Proofs.YtbdfhnelmojbpaaGreatDoor.Rows.uptoBulk d:=by
 cases d with
 | lit l=>cases l<;>simp[Go.Proofs.YtbdfhnelmojbpaaGreatDoor.Rows.uptoBulk]
 | _=>simp[Go.Proofs.YtbdfhnelmojbpaaGreatDoor.Rows.uptoBulk]
theorem bulk_mem {H:Type}{d:DataW H}:∀ {l:List (DataW H)},d∈l→Go.Proofs.YtbdfhnelmojbpaaGreatDoor.Rows.uptoBulk d≤Go.Proofs.YtbdfhnelmojbpaaGreatDoor.Rows.uptoBulkAll l
 | x :: r,h=>by
   simp only[Go.Proofs.YtbdfhnelmojbpaaGreatDoor.Rows.uptoBulkAll]
   rcases List.mem_cons.1 h with rfl|h
   ·omega
   ·have:=bulk_mem h;omega
theorem bulk_len {H:Type}:∀ (l:List (DataW H)),l.length≤Go.Proofs.YtbdfhnelmojbpaaGreatDoor.Rows.uptoBulkAll l
 | []=>by simp
 | x :: r=>by
   have h1:=bulk_one x
   have h2:=bulk_len r
   simp only[Go.Proofs.YtbdfhnelmojbpaaGreatDoor.Rows.uptoBulkAll,List.length_cons];omega
theorem pers_arg {t e:TypeId}{f0 f1 f2:Field}{v:Value}{d:DataW H}{p:List MemPlace}{base:Nat}(ht:P.underlying t=some (.slice e)) (he:P.underlying e=some (.struct #[f0,f1,f2])) (hone:oneCellFields P #[f0,f1,f2]=true) (hC:P.cellsOf e=3)
 (k0:P.underlying f0.type=some .string) (k1:P.underlying f1.type=some .string) (k2:P.underlying f2.type=some .string) (hval:Value.okWide P W .any base t v)
 (h:DataW.Trod enc P W 0 (fun _=>true) true t v d p) :
 ∃ ys:List PerM,PersIn W v ys∧ys.length≤Go.Proofs.YtbdfhnelmojbpaaGreatDoor.Rows.uptoBulk d∧∀ y∈ys,y.1.length≤Go.Proofs.YtbdfhnelmojbpaaGreatDoor.Rows.uptoBulk d∧y.2.1.length≤Go.Proofs.YtbdfhnelmojbpaaGreatDoor.Rows.uptoBulk d∧y.2.2.length≤Go.Proofs.YtbdfhnelmojbpaaGreatDoor.Rows.uptoBulk d:=by
 obtain ⟨A,n,c,rfl⟩:=slice_at ht hval
 obtain ⟨fuel,hf⟩:=h
 rcases open_slice ht hf with ⟨hcs,_⟩|⟨a,len,cap,m,n',D,Pl,hcs,_,hl,hm,hmm,hx,hi⟩
 ·simp[Value.cells]at hcs
  obtain ⟨rfl,rfl,rfl⟩:=hcs
  exact ⟨[],⟨none,0,rfl,Nat.le_refl _,fun i x hx=>by simp at hx⟩,by simp,fun y hy=>by cases hy⟩
 ·simp[Value.cells]at hcs
  obtain ⟨rfl,rfl,rfl⟩:=hcs
  have hmn:n≤m:=by rw[hmm];simp;omega
  have each:∀ i,i<n→∃ y:PerM,D i=.agg [.lit (.string y.1),.lit (.string y.2.1),.lit (.string y.2.2)]∧a=⟨a.block,a.off,none⟩∧PerR W a.block (a.off+i*3) y:=fun i hin=>by
   obtain ⟨cs',h1,h2⟩:=hi i (by omega)
   rw[hC]at h1
   obtain ⟨y,e1,e2,e3,e4⟩:=per_elem he hone hC k0 k1 k2 h1 h2
   rw[add_add]at e2 e3 e4
   obtain ⟨cs0,z1,z2⟩:=hi 0 (by omega)
   rw[hC,Nat.zero_mul]at z1
   obtain ⟨_,_,z3,_,_⟩:=per_elem he hone hC k0 k1 k2 z1 z2
   rw[add_add]at z3
   have ea:=spot_at z3
   refine ⟨y,e1,ea,?_,?_,?_⟩
   ·rw[ea,add_none]at e2;exact e2
   ·rw[ea,add_none,← Nat.add_assoc]at e3;exact e3
   ·rw[ea,add_none,← Nat.add_assoc]at e4;exact e4
  obtain ⟨F,hF⟩:∃ F:Nat→PerM,∀ i,i<n→D i=.agg [.lit (.string (F i).1),.lit (.string (F i).2.1),.lit (.string (F i).2.2)]∧a=⟨a.block,a.off,none⟩∧PerR W a.block (a.off+i*3) (F i):=by
   classical
   refine ⟨fun i=>if h:i<n then Classical.choose (each i h)else ([],[],[]),fun i hin=>?_⟩
   simp only[hin,dif_pos]
   exact Classical.choose_spec (each i hin)
  have hd:d=.slice ((List.range n).map D) ((List.range (m - n)).map fun j=>D (n+j)):=congrArg Prod.fst hx
  have hb:Go.Proofs.YtbdfhnelmojbpaaGreatDoor.Rows.uptoBulkAll ((List.range n).map D)+1≤Go.Proofs.YtbdfhnelmojbpaaGreatDoor.Rows.uptoBulk d:=by rw[hd];simp only[Go.Proofs.YtbdfhnelmojbpaaGreatDoor.Rows.uptoBulk];omega
  refine ⟨(List.range n).map F,⟨some a,c,by simp,by simp;exact hl,fun i x hx=>?_⟩,?_,fun y hy=>?_⟩
  ·rw[List.getElem?_map]at hx
   by_cases hin:i<n
   ·rw[List.getElem?_range hin]at hx
    have hx:F i=x:=by simpa using hx
    subst hx
    exact ⟨a.block,a.off,by rw[← (hF i hin).2.1],(hF i hin).2.2⟩
   ·rw[List.getElem?_eq_none (by simp;omega)]at hx;simp at hx
  ·have:=bulk_len ((List.range n).map D)
   simp at this ⊢;omega
  ·obtain ⟨i,hi1,rfl⟩:=List.mem_map.1 hy
   have hin:i<n:=by simpa using hi1
   have h1:=bulk_mem (List.mem_map.2 ⟨i,hi1,rfl⟩:D i∈(List.range n).map D)
   rw[(hF i hin).1]at h1
   simp only[Go.Proofs.YtbdfhnelmojbpaaGreatDoor.Rows.uptoBulk,Go.Proofs.YtbdfhnelmojbpaaGreatDoor.Rows.uptoBulkAll]at h1
   omega
end Vic
end
