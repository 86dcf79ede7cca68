/- Package split: a number, where the second stage begins, bounds that are missing. -/
import Derived.Test.YtbdfhnelmojbpaaGreatDoorRay
import Derived.Test.YtbdfhnelmojbpaaGreatDoorRax
import Derived.Deep.QuietTactic
import Derived.BigQuiet
import Derived.Test.YtbdfhnelmojbpaaGreatDoorRap
import Derived.Deep.RegionHeld
set_option linter.unusedVariables false
set_option linter.unusedSimpArgs false
section
namespace Go.Proofs.YtbdfhnelmojbpaaGreatDoor
open Go.RowKit Vic
theorem split_number (w:World) (s:Txt) (hl:s.length≤1000000) (ht:Tab w) (hg:FracGood s):Calls Tryz.prog 99 #[.string ⟨s.toArray⟩] w (fun e w'=>∃ x,e=.returned x∧FracPtr w' x (fracOf s)∧Fits 1000000 (fracOf s)∧Below w.heap.size w w'):=by
 have CG:=Lib.hid (frac_Get w s hl ht)
 unfold GotFrac at CG
 clear ht hl
 go_enter Tryz.func99,Tryz.ntmps99
 go_wp2_with fail
 refine CG.out.mono ?_
 rintro e w1 (⟨h1,rfl,hb⟩|⟨h1,x,rfl,hx,hf,hb⟩)
 ·exact absurd hg h1
 ·have HX:=Lib.hid hx
  clear hx
  go_wp2_with fail
  go_ret
  exact ⟨x,rfl,HX.out,hf,hb⟩
theorem enter_scut1:∀ args w,(callFunc 91 args).run Tryz.prog w=.ok (.enter 91 args) w:=fun _ _=>by kernel_rfl
theorem enter_scut2:∀ args w,(callFunc 92 args).run Tryz.prog w=.ok (.enter 92 args) w:=fun _ _=>by kernel_rfl
theorem enter_slook1:∀ args w,(callFunc 93 args).run Tryz.prog w=.ok (.enter 93 args) w:=fun _ _=>by kernel_rfl
theorem enter_slook11:∀ args w,(callFunc 95 args).run Tryz.prog w=.ok (.enter 95 args) w:=fun _ _=>by kernel_rfl
theorem enter_slook2:∀ args w,(callFunc 96 args).run Tryz.prog w=.ok (.enter 96 args) w:=fun _ _=>by kernel_rfl
theorem enter_sopen:∀ args w,(callFunc 97 args).run Tryz.prog w=.ok (.enter 97 args) w:=fun _ _=>by kernel_rfl
theorem enter_scrosses:∀ args w,(callFunc 98 args).run Tryz.prog w=.ok (.enter 98 args) w:=fun _ _=>by kernel_rfl
theorem slook2 (w:World) (x:ColM):Calls Tryz.prog 96 (#[.agg #[.string ⟨x.name.toArray⟩,.string ⟨x.low.toArray⟩,.string ⟨x.up.toArray⟩,.string ⟨x.cost.toArray⟩,.bool x.int]] ++ #[]) w (Keeps (.bool x.int) w):=by
 obtain ⟨name,low,up,cost,int⟩:=x
 go_enter Tryz.func96,Tryz.ntmps96
 go_wp2_with fail
 go_ret
 exact ⟨rfl,(Below.refl _ _).alloc (Nat.le_refl _) _⟩
theorem slook11 (w:World) (x:CoefM) (b:Nat) (col:Int) (hb:w.cell? ⟨b,0,none⟩=some (.int .i64 col)):Calls Tryz.prog 95 (#[.agg #[.int .i64 x.1,.string ⟨x.2.toArray⟩]] ++ #[.pointer (some ⟨b,0,none⟩)]) w (Keeps (.bool (decide (col≤x.1))) w):=by
 have hb':∀ ob,(w.alloc ob).cell? ⟨b,0,none⟩=some (.int .i64 col):=fun ob=>cell_keep hb ((Below.refl _ _).alloc (Nat.le_refl _) _)
 obtain ⟨i,v⟩:=x
 dsimp only
 go_enter Tryz.func95,Tryz.ntmps95
 go_wp2_with fail
 go_ret
 exact ⟨by first|rfl|simp,(Below.refl _ _).alloc (Nat.le_refl _) _⟩
theorem slook1 (w:World) (r:RowM) (cv:Value) (hcs:CsIn w cv r.coef) (hl:r.coef.length≤1000000) (b:Nat) (col:Int) (hb:w.cell? ⟨b,0,none⟩=some (.int .i64 col)):Calls Tryz.prog 93 (#[.agg #[.string ⟨r.name.toArray⟩,.int .i64 r.kind,cv,.string ⟨r.rhs.toArray⟩,.string ⟨r.range.toArray⟩]] ++ #[.pointer (some ⟨b,0,none⟩)]) w (Keeps (.bool (r.coef.any fun x=>decide (col≤x.1))) w):=by
 obtain ⟨name,kind,coef,rhs,range⟩:=r
 dsimp only at hcs hl ⊢
 have HCS:=Lib.hid hcs
 obtain ⟨cA,cc,rfl,hcc,_⟩:=hcs
 obtain ⟨w1,hw1⟩:∃ X,X=w.alloc (.cells #[.string ⟨name.toArray⟩,.int .i64 kind,.slice cA coef.length cc,.string ⟨rhs.toArray⟩,.string ⟨range.toArray⟩] 28):=⟨_,rfl⟩
 have hb1:Below w.heap.size w w1:=by rw[hw1];exact (Below.refl _ _).alloc (Nat.le_refl _) _
 have hrow:Row w1 w.heap.size 28 #[.string ⟨name.toArray⟩,.int .i64 kind,.slice cA coef.length cc,.string ⟨rhs.toArray⟩,.string ⟨range.toArray⟩]:=by rw[hw1];exact Row.new _ _ _
 have c2:w1.cell? ⟨w.heap.size,2,none⟩=some (.slice cA coef.length cc):=hrow.cell 2
 have hbb:=cell_keep hb hb1
 have CA:=Lib.hid (anyf_coef (p:=fun x=>decide (col≤x.1)) w1 _ coef (HCS.out.keep CoefR.firm hb1) hl enter_slook11 (lb:=#[.pointer (some ⟨b,0,none⟩)]) fun W x _ hW=>slook11 W x b col (cell_keep hbb hW))
 have HB1:=Lib.hid hb1
 clear hb1 HCS hrow hbb hb
 go_enter Tryz.func93,Tryz.ntmps93
 go_upto_region 1 with fail
 rw[← hw1]
 clear hw1
 go_wp2_with fail
 refine CA.out.mono ?_
 rintro e w2 ⟨rfl,h2⟩
 go_wp2_with fail
 go_ret
 exact ⟨rfl,below_seq HB1.out h2⟩
theorem sopen (w:World) (x:ColM):Calls Tryz.prog 97 (#[.agg #[.string ⟨x.name.toArray⟩,.string ⟨x.low.toArray⟩,.string ⟨x.up.toArray⟩,.string ⟨x.cost.toArray⟩,.bool x.int]] ++ #[]) w (Keeps (.bool (openM x)) w):=by
 have hM:Hid (openM x=(x.low.isEmpty || x.up.isEmpty)):=rfl
 generalize openM x=b at *
 obtain ⟨name,low,up,cost,int⟩:=x
 dsimp only at hM ⊢
 by_cases h1:low = []
 ·subst h1
  go_enter Tryz.func97,Tryz.ntmps97
  go_wp2_with fail
  go_ret
  exact ⟨by rw[hM.out];rfl,(Below.refl _ _).alloc (Nat.le_refl _) _⟩
 ·have h2:(low == [])=false:=beq_eq_false_iff_ne.2 h1
  have h3:low.isEmpty=false:=by cases low with|nil=>exact absurd rfl h1|cons a b=>rfl
  clear h1
  by_cases h4:up = []
  ·subst h4
   go_enter Tryz.func97,Tryz.ntmps97
   go_wp2_with fail
   go_ret
   exact ⟨by rw[hM.out];simp,(Below.refl _ _).alloc (Nat.le_refl _) _⟩
  ·have h5:(up == [])=false:=beq_eq_false_iff_ne.2 h4
   have h6:up.isEmpty=false:=by cases up with|nil=>exact absurd rfl h4|cons a b=>rfl
   clear h4
   go_enter Tryz.func97,Tryz.ntmps97
   go_wp2_with fail
   go_ret
   exact ⟨by rw[hM.out,h3,h6];rfl,(Below.refl _ _).alloc (Nat.le_refl _) _⟩
theorem scut1 (w:World) (x:ColM) (b g o:Nat) (n c:Nat) (s:Txt) (hb:w.cell? ⟨b,0,none⟩=some (.slice (some ⟨g,o,none⟩) n c)) (hn:2≤n) (hnl:n≤1000000000) (hs:w.cell? ⟨g,o+3,none⟩=some (.string ⟨s.toArray⟩)):Calls Tryz.prog 91 (#[.agg #[.string ⟨x.name.toArray⟩,.string ⟨x.low.toArray⟩,.string ⟨x.up.toArray⟩,.string ⟨x.cost.toArray⟩,.bool x.int]] ++ #[.pointer (some ⟨b,0,none⟩)]) w (Keeps (.bool (x.name == s)) w):=by
 obtain ⟨name,low,up,cost,int⟩:=x
 dsimp only
 obtain ⟨w1,hw1⟩:∃ X,X=w.alloc (.cells #[.string ⟨name.toArray⟩,.string ⟨low.toArray⟩,.string ⟨up.toArray⟩,.string ⟨cost.toArray⟩,.bool int] 31):=⟨_,rfl⟩
 have hb1:Below w.heap.size w w1:=by rw[hw1];exact (Below.refl _ _).alloc (Nat.le_refl _) _
 have hrow:Row w1 w.heap.size 31 #[.string ⟨name.toArray⟩,.string ⟨low.toArray⟩,.string ⟨up.toArray⟩,.string ⟨cost.toArray⟩,.bool int]:=by rw[hw1];exact Row.new _ _ _
 have c0:w1.cell? ⟨w.heap.size,0,none⟩=some (.string ⟨name.toArray⟩):=hrow.cell 0
 have d0:=cell_keep hb hb1
 have d1:=cell_keep hs hb1
 have hn1:(1:Int)<(n:Int):=by omega
 have HB1:=Lib.hid hb1
 clear hrow hb hs hb1
 go_enter Tryz.func91,Tryz.ntmps91
 go_upto_region 1 with fail
 rw[← hw1]
 clear hw1
 go_quiet (fail)
 go_wp2_with fail
 go_ret
 exact ⟨rfl,Below.drewN_ HB1.out nq⟩
theorem scut2 (w:World) (r:RowM) (cv:Value) (hcs:CsIn w cv r.coef) (b g o:Nat) (n c:Nat) (s:Txt) (hb:w.cell? ⟨b,0,none⟩=some (.slice (some ⟨g,o,none⟩) n c)) (hn:2≤n) (hnl:n≤1000000000) (hs:w.cell? ⟨g,o+4,none⟩=some (.string ⟨s.toArray⟩)):Calls Tryz.prog 92 (#[.agg #[.string ⟨r.name.toArray⟩,.int .i64 r.kind,cv,.string ⟨r.rhs.toArray⟩,.string ⟨r.range.toArray⟩]] ++ #[.pointer (some ⟨b,0,none⟩)]) w (Keeps (.bool (r.name == s)) w):=by
 obtain ⟨name,kind,coef,rhs,range⟩:=r
 obtain ⟨cA,cc,rfl,_,_⟩:=hcs
 dsimp only
 obtain ⟨w1,hw1⟩:∃ X,X=w.alloc (.cells #[.string ⟨name.toArray⟩,.int .i64 kind,.slice cA coef.length cc,.string ⟨rhs.toArray⟩,.string ⟨range.toArray⟩] 28):=⟨_,rfl⟩
 have hb1:Below w.heap.size w w1:=by rw[hw1];exact (Below.refl _ _).alloc (Nat.le_refl _) _
 have hrow:Row w1 w.heap.size 28 #[.string ⟨name.toArray⟩,.int .i64 kind,.slice cA coef.length cc,.string ⟨rhs.toArray⟩,.string ⟨range.toArray⟩]:=by rw[hw1];exact Row.new _ _ _
 have c0:w1.cell? ⟨w.heap.size,0,none⟩=some (.string ⟨name.toArray⟩):=hrow.cell 0
 have d0:=cell_keep hb hb1
 have d1:=cell_keep hs hb1
 have hn1:(1:Int)<(n:Int):=by omega
 have HB1:=Lib.hid hb1
 clear hrow hb hs hb1
 go_enter Tryz.func92,Tryz.ntmps92
 go_upto_region 1 with fail
 rw[← hw1]
 clear hw1
 go_quiet (fail)
 go_wp2_with fail
 go_ret
 exact ⟨rfl,Below.drewN_ HB1.out nq⟩
theorem split_cut (w:World) (v u:Value) (c:CoreM) (ps:List PerM) (hv:CoreIn w v c) (hu:PersIn w u ps) (hp:ps.length=2) (hrl:c.rows.length≤1000000) (hcl:c.cols.length≤1000000) :
 Calls Tryz.prog 30 #[v,u] w (Keeps (.tuple #[.int .i64 (cutCol c ps),.int .i64 (cutRow c ps)]) w):=by
 obtain ⟨a,b,rfl⟩:∃ a b,ps = [a,b]:=by
  rcases ps with _|⟨a,_|⟨b,_|⟨d,l⟩⟩⟩
  ·simp at hp
  ·simp at hp
  ·exact ⟨a,b,rfl⟩
  ·simp at hp
 obtain ⟨pA,pc,rfl,hpc,hper⟩:=hu
 obtain ⟨g,o,rfl,b0,b1,b2⟩:=hper 1 b rfl
 have hk1:cutCol c [a,b]=colAt c b.1:=rfl
 have hk2:cutRow c [a,b]=rowIx c b.2.1:=rfl
 rw[hk1,hk2]
 obtain ⟨bc,br,bn⟩:=b
 dsimp only at b0 b1 ⊢
 obtain ⟨rv,cv,rfl,hrs,hcs⟩:=hv
 have HRS:=Lib.hid hrs
 have HCS:=Lib.hid hcs
 obtain ⟨rA,rc,rfl,hrc,_⟩:=hrs
 obtain ⟨cA,cc,rfl,hcc,_⟩:=hcs
 obtain ⟨w1,hw1⟩:∃ X,X=(w.alloc (.cells #[.string ⟨c.name.toArray⟩,.string ⟨c.obj.toArray⟩,.slice rA c.rows.length rc,.slice cA c.cols.length cc] 34)).alloc (.cells #[.slice (some ⟨g,o,none⟩) 2 pc] 45):=⟨_,rfl⟩
 have hb1:Below w.heap.size w w1:=by rw[hw1];exact ((Below.refl _ _).alloc (Nat.le_refl _) _).alloc (by simp) _
 have hrow:=(Row.new w 34 #[.string ⟨c.name.toArray⟩,.string ⟨c.obj.toArray⟩,.slice rA c.rows.length rc,.slice cA c.cols.length cc]).alloc (.cells #[.slice (some ⟨g,o,none⟩) 2 pc] 45)
 rw[← hw1]at hrow
 have c2:w1.cell? ⟨w.heap.size,2,none⟩=some (.slice rA c.rows.length rc):=hrow.cell 2
 have c3:w1.cell? ⟨w.heap.size,3,none⟩=some (.slice cA c.cols.length cc):=hrow.cell 3
 have s0:w1.cell? ⟨w.heap.size+1,0,none⟩=some (.slice (some ⟨g,o,none⟩) 2 pc):=by
  have:=(Row.new (w.alloc (.cells #[.string ⟨c.name.toArray⟩,.string ⟨c.obj.toArray⟩,.slice rA c.rows.length rc,.slice cA c.cols.length cc] 34)) 45 #[.slice (some ⟨g,o,none⟩) 2 pc]).cell 0
  rw[World.size_alloc,← hw1]at this
  exact this
 have e0:w1.cell? ⟨g,o+3,none⟩=some (.string ⟨bc.toArray⟩):=by have:=cell_keep b0 hb1;simpa using this
 have e1:w1.cell? ⟨g,o+4,none⟩=some (.string ⟨br.toArray⟩):=by have:=cell_keep b1 hb1;simpa using this
 have CC:Hid (Calls Tryz.prog 66 #[.slice cA c.cols.length cc,.func (.func 91) #[] #[.pointer (some ⟨w.heap.size+1,0,none⟩)]] w1 (Keeps (.int .i64 (colAt c bc)) w1)):=Lib.hid (by
  have:=idxf_col (p:=fun x=>x.name == bc) w1 _ c.cols (HCS.out.keep ColR.firm hb1) hcl enter_scut1 (lb:=#[.pointer (some ⟨w.heap.size+1,0,none⟩)]) fun W x _ hW=>scut1 W x _ g o 2 pc bc (cell_keep s0 hW) (Nat.le_refl _) (by omega) (cell_keep e0 hW)
  rwa [show anyIdx (fun x:ColM=>x.name == bc) c.cols=colAt c bc from anyIdx_map (·.name) c.cols bc]at this)
 have CR:Hid (∀ W,Below w1.heap.size w1 W→Calls Tryz.prog 64 #[.slice rA c.rows.length rc,.func (.func 92) #[] #[.pointer (some ⟨w.heap.size+1,0,none⟩)]] W (Keeps (.int .i64 (rowIx c br)) W)):=Lib.hid fun W hW0=>by
  have:=idxf_row (p:=fun x=>x.name == br) W _ c.rows (HRS.out.keep RowR.firm (below_seq hb1 hW0)) hrl enter_scut2 (lb:=#[.pointer (some ⟨w.heap.size+1,0,none⟩)]) fun W' x cv _ hW hc=>scut2 W' x cv hc _ g o 2 pc br (cell_keep (cell_keep s0 hW0) hW) (Nat.le_refl _) (by omega) (cell_keep (cell_keep e1 hW0) hW)
  rwa [show anyIdx (fun x:RowM=>x.name == br) c.rows=rowIx c br from anyIdx_map (·.name) c.rows br]at this
 have HB1:=Lib.hid hb1
 clear hb1 HRS HCS hrow b0 b1 b2 s0 e0 e1 hper hp hk1 hk2
 go_enter Tryz.func30,Tryz.ntmps30
 go_upto_region 1 with fail
 have hl2:(([a,(bc,br,bn)]:List PerM).length:Nat)=2:=rfl
 try rw[hl2]
 try rw[← hw1]
 clear hw1 hl2
 go_wp2_with fail
 refine CC.out.mono ?_
 rintro e w2 ⟨rfl,h2⟩
 have d2:=cell_keep c2 h2
 have C2:=Lib.hid (CR.out w2 h2)
 have H2:=Lib.hid h2
 clear h2 c2 c3 CR
 go_wp2_with fail
 refine C2.out.mono ?_
 rintro e w3 ⟨rfl,h3⟩
 go_wp2_with fail
 go_ret2
 exact ⟨rfl,below_seq HB1.out (below_seq H2.out h3)⟩
end Go.Proofs.YtbdfhnelmojbpaaGreatDoor
end
section
namespace Vic
open Go Go.RowKit
theorem signI_pos (q:Rat):decide (0<signI q)=decide (0<q.num):=by
 unfold signI
 apply decide_eq_decide.2
 split
 ·omega
 ·split<;>omega
theorem num_pos (x y:Rat):(0<(x - y).num)↔y<x:=by
 have e:(y - x)=-(x - y):=by
  first|exact (Rat.neg_sub _ _).symm|(rw[Rat.sub_eq_add_neg,Rat.sub_eq_add_neg,Rat.neg_add,Rat.neg_neg,Rat.add_comm])
 have h1:0≤(y - x).num↔x≤y:=Rat.num_nonneg.trans (Rat.le_iff_sub_nonneg x y).symm
 rw[e,Rat.neg_num]at h1
 rw[← Rat.not_le,← h1]
 omega
end Vic
namespace Go.Proofs.YtbdfhnelmojbpaaGreatDoor
open Go.RowKit Vic
theorem frac_Cmp (w:World) (u v:Value) (x y:Rat) (hu:FracAt w u x) (hv:FracAt w v y) (hx:Fits 1000000 x) (hy:Fits 1000000 y):Calls Tryz.prog 160 #[u,v] w (Keeps (.int .i64 (signI (x - y))) w):=by
 have hS:=frac_Sub w u v x y hu hv (hx.mono (by omega)) (hy.mono (by omega))
 have HS:=Lib.hid hS
 have hf:Fits 1000000000 (x - y):=by
  rw[Rat.sub_eq_add_neg]
  exact (fits_add hx (fits_neg hy)).mono (by omega)
 have CG:Hid (∀ wr z,FracPtr wr z (x - y)→Calls Tryz.prog 100 #[z] wr (Keeps (.int .i64 (signI (x - y))) wr)):=Lib.hid fun wr z hz=>frac_Sign wr z _ hz.at_ hf
 clear hu hv hf hS hx hy
 go_enter Tryz.func160,Tryz.ntmps160
 go_wp2_with fail
 refine HS.out.mono ?_
 rintro e w1 ⟨z,rfl,hz,hb1⟩
 have C2:=Lib.hid (CG.out _ _ hz)
 clear hz HS CG
 go_wp2_with fail
 refine C2.out.mono ?_
 rintro e w2 ⟨rfl,hb2⟩
 go_wp2_with fail
 go_ret
 exact ⟨rfl,below_seq hb1 hb2⟩
abbrev vcrs1_0:Oper:={ dst:=some 3,op:=Go.Op.fieldAddr 31 (Go.Operand.tmp 1) 1,type:=0,pos:="split.go:53",after:=#[],guard:=none }
abbrev vcrs1_1:Oper:={ dst:=some 4,op:=Go.Op.load 9 (Go.Operand.tmp 3),type:=9,pos:="split.go:53",after:=#[{ on:=0,ground:=Go.Ground.data }],guard:=none }
abbrev vcrs1_2:Oper:={ dst:=some 5,op:=Go.Op.binOp Go.BinOp.neq 9 (Go.Operand.tmp 4) (Go.Operand.const (Go.Value.string { data:=#[] })) 9,type:=4,pos:="split.go:53",after:=#[{ on:=1,ground:=Go.Ground.data }],guard:=none }
abbrev vcrs1_3:Oper:={ dst:=some 6,op:=Go.Op.move (Go.Operand.tmp 5),type:=4,pos:="split.go:53",after:=#[{ on:=2,ground:=Go.Ground.data }],guard:=none }
abbrev vcrs1_4:Oper:={ dst:=some 7,op:=Go.Op.fieldAddr 31 (Go.Operand.tmp 1) 2,type:=0,pos:="split.go:53",after:=#[{ on:=3,ground:=Go.Ground.guard }],guard:=some (3,true) }
abbrev vcrs1_5:Oper:={ dst:=some 8,op:=Go.Op.load 9 (Go.Operand.tmp 7),type:=9,pos:="split.go:53",after:=#[{ on:=4,ground:=Go.Ground.data },{ on:=3,ground:=Go.Ground.guard }],guard:=some (3,true) }
abbrev vcrs1_6:Oper:={ dst:=some 9,op:=Go.Op.binOp Go.BinOp.neq 9 (Go.Operand.tmp 8) (Go.Operand.const (Go.Value.string { data:=#[] })) 9,type:=4,pos:="split.go:53",after:=#[{ on:=5,ground:=Go.Ground.data },{ on:=3,ground:=Go.Ground.guard }],guard:=some (3,true) }
abbrev vcrs1_7:Oper:={ dst:=some 10,op:=Go.Op.pick (Go.Operand.tmp 6) (Go.Operand.tmp 9) (Go.Operand.const (Go.Value.bool false)),type:=4,pos:="split.go:53",after:=#[{ on:=3,ground:=Go.Ground.data },{ on:=6,ground:=Go.Ground.data }],guard:=none }
abbrev vcrs1_8:Oper:={ dst:=some 11,op:=Go.Op.move (Go.Operand.tmp 10),type:=4,pos:="split.go:53",after:=#[{ on:=7,ground:=Go.Ground.data },{ on:=3,ground:=Go.Ground.chain }],guard:=none }
abbrev vcrs1_9:Oper:={ dst:=some 12,op:=Go.Op.fieldAddr 31 (Go.Operand.tmp 1) 1,type:=0,pos:="split.go:53",after:=#[{ on:=8,ground:=Go.Ground.guard }],guard:=some (8,true) }
abbrev vcrs1_10:Oper:={ dst:=some 13,op:=Go.Op.load 9 (Go.Operand.tmp 12),type:=9,pos:="split.go:53",after:=#[{ on:=9,ground:=Go.Ground.data },{ on:=8,ground:=Go.Ground.guard }],guard:=some (8,true) }
abbrev vcrs1_11:Oper:={ dst:=some 14,op:=Go.Op.call { callee:=Go.Callee.value (Go.Operand.func 99),args:=#[Go.Operand.tmp 13],argTypes:=#[9] },type:=177,pos:="split.go:53",after:=#[{ on:=10,ground:=Go.Ground.data },{ on:=8,ground:=Go.Ground.chain },{ on:=8,ground:=Go.Ground.guard }],guard:=some (8,true) }
abbrev vcrs1_12:Oper:={ dst:=some 15,op:=Go.Op.fieldAddr 31 (Go.Operand.tmp 1) 2,type:=0,pos:="split.go:53",after:=#[{ on:=8,ground:=Go.Ground.guard }],guard:=some (8,true) }
abbrev vcrs1_13:Oper:={ dst:=some 16,op:=Go.Op.load 9 (Go.Operand.tmp 15),type:=9,pos:="split.go:53",after:=#[{ on:=12,ground:=Go.Ground.data },{ on:=8,ground:=Go.Ground.guard }],guard:=some (8,true) }
abbrev vcrs1_14:Oper:={ dst:=some 17,op:=Go.Op.call { callee:=Go.Callee.value (Go.Operand.func 99),args:=#[Go.Operand.tmp 16],argTypes:=#[9] },type:=177,pos:="split.go:53",after:=#[{ on:=13,ground:=Go.Ground.data },{ on:=11,ground:=Go.Ground.chain },{ on:=8,ground:=Go.Ground.guard }],guard:=some (8,true) }
abbrev vcrs1_15:Oper:={ dst:=some 18,op:=Go.Op.call { callee:=Go.Callee.value (Go.Operand.func 160),args:=#[Go.Operand.tmp 14,Go.Operand.tmp 17],argTypes:=#[177,177] },type:=3,pos:="split.go:53",after:=#[{ on:=11,ground:=Go.Ground.data },{ on:=14,ground:=Go.Ground.data },{ on:=14,ground:=Go.Ground.chain },{ on:=8,ground:=Go.Ground.guard }],guard:=some (8,true) }
abbrev vcrs1_16:Oper:={ dst:=some 19,op:=Go.Op.binOp Go.BinOp.gtr 3 (Go.Operand.tmp 18) (Go.Operand.const (Go.Value.int Go.IntKind.i64 0)) 3,type:=4,pos:="split.go:53",after:=#[{ on:=15,ground:=Go.Ground.data },{ on:=8,ground:=Go.Ground.guard }],guard:=some (8,true) }
abbrev vcrs1_17:Oper:={ dst:=some 20,op:=Go.Op.pick (Go.Operand.tmp 11) (Go.Operand.tmp 19) (Go.Operand.const (Go.Value.bool false)),type:=4,pos:="split.go:53",after:=#[{ on:=8,ground:=Go.Ground.data },{ on:=16,ground:=Go.Ground.data }],guard:=none }
abbrev vcrs1_18:Oper:={ dst:=some 2,op:=Go.Op.assign (Go.Operand.tmp 20),type:=4,pos:="split.go:53",after:=#[{ on:=17,ground:=Go.Ground.data },{ on:=15,ground:=Go.Ground.chain },{ on:=0,ground:=Go.Ground.phase },{ on:=1,ground:=Go.Ground.phase },{ on:=2,ground:=Go.Ground.phase },{ on:=3,ground:=Go.Ground.phase },{ on:=4,ground:=Go.Ground.phase },{ on:=5,ground:=Go.Ground.phase },{ on:=6,ground:=Go.Ground.phase },{ on:=7,ground:=Go.Ground.phase },{ on:=8,ground:=Go.Ground.phase },{ on:=9,ground:=Go.Ground.phase },{ on:=10,ground:=Go.Ground.phase },{ on:=11,ground:=Go.Ground.phase },{ on:=12,ground:=Go.Ground.phase },{ on:=13,ground:=Go.Ground.phase },{ on:=14,ground:=Go.Ground.phase },{ on:=15,ground:=Go.Ground.phase },{ on:=16,ground:=Go.Ground.phase },{ on:=17,ground:=Go.Ground.phase }],guard:=none }
set_option maxRecDepth 100000 in
set_option maxHeartbeats 8000000 in
theorem scrosses (w:World) (x:ColM) (ht:Tab w) (hf:FitCol x) (hlo:maybeM x.low=true) (hup:maybeM x.up=true):Calls Tryz.prog 98 (#[.agg #[.string ⟨x.name.toArray⟩,.string ⟨x.low.toArray⟩,.string ⟨x.up.toArray⟩,.string ⟨x.cost.toArray⟩,.bool x.int]] ++ #[]) w (Keeps (.bool (crossesM x)) w):=by
 have hM:Hid (crossesM x=(!x.low.isEmpty && !x.up.isEmpty && decide (fracOf x.up<fracOf x.low))):=rfl
 generalize crossesM x=b at *
 obtain ⟨_,hl,hu,_⟩:=hf
 obtain ⟨name,low,up,cost,int⟩:=x
 dsimp only at hM hl hu hlo hup ⊢
 obtain ⟨w1,hw1⟩:∃ X,X=w.alloc (.cells #[.string ⟨name.toArray⟩,.string ⟨low.toArray⟩,.string ⟨up.toArray⟩,.string ⟨cost.toArray⟩,.bool int] 31):=⟨_,rfl⟩
 have hb1:Below w.heap.size w w1:=by rw[hw1];exact (Below.refl _ _).alloc (Nat.le_refl _) _
 have hrow:Row w1 w.heap.size 31 #[.string ⟨name.toArray⟩,.string ⟨low.toArray⟩,.string ⟨up.toArray⟩,.string ⟨cost.toArray⟩,.bool int]:=by rw[hw1];exact Row.new _ _ _
 have HA':Hid (∀ W,Below w1.heap.size w1 W→W.cell? ⟨w.heap.size,1,none⟩=some (.string ⟨low.toArray⟩)∧W.cell? ⟨w.heap.size,2,none⟩=some (.string ⟨up.toArray⟩)):=Lib.hid fun W hW=>⟨cell_keep (hrow.cell 1) hW,cell_keep (hrow.cell 2) hW⟩
 have HT:=Lib.hid (ht.keep hb1)
 have HB1:=Lib.hid hb1
 obtain ⟨p1,hp1⟩:∃ p,p=w.heap.size:=⟨_,rfl⟩
 rw[← hp1]at HA'
 clear hrow hb1 ht
 go_enter Tryz.func98,Tryz.ntmps98
 go_upto_region 1 with fail
 rw[← hw1,← hp1]
 clear hw1 hp1
 by_cases h1:low = []
 ·have c1:(low == [])=true:=beq_iff_eq.2 h1
  have HZ:Hid (b=false):=Lib.hid (by rw[hM.out,h1];rfl)
  clear h1 hM hlo hup
  refine wp_region_held (S:=fun W=>Below w1.heap.size w1 W) (by kernel_rfl) ?_
  change wpAnyH _ _ _ _ _ _ _ _ (World.drew _)
  obtain ⟨W0,hW0⟩:∃ X,X=(w1).drew:=⟨_,rfl⟩
  rw[← hW0]
  have z0:Below (w1).heap.size (w1) W0:=by rw[hW0];exact Below.drewN_ (Below.refl _ _) 1
  clear hW0
  refine tkH (i:=0) (oi:=vcrs1_0) (v:=.pointer (some ⟨p1,1,none⟩)) (by kernel_rfl) rfl (fun _ _ _ h=>h) ?_ (z0) ?_
  ·intro w hSw;go_simp<;>first|omega|(intro hh;exfalso;omega)|rfl
  try simp only[Act.put,qa,qb,qc,vcrs1_0]
  refine tkH (i:=1) (oi:=vcrs1_1) (v:=.string ⟨low.toArray⟩) (by kernel_rfl) rfl (fun _ _ _ h=>h) ?_ (z0) ?_
  ·intro w hSw;obtain ⟨C1,C2⟩:=HA'.out w hSw;go_simp<;>first|omega|(intro hh;exfalso;omega)|rfl
  try simp only[Act.put,qa,qb,qc,vcrs1_1]
  refine tkH (i:=2) (oi:=vcrs1_2) (v:=.bool false) (by kernel_rfl) rfl (fun _ _ _ h=>h) ?_ (z0) ?_
  ·intro w hSw;go_simp<;>first|omega|(intro hh;exfalso;omega)|rfl
  try simp only[Act.put,qa,qb,qc,vcrs1_2]
  refine tkH (i:=3) (oi:=vcrs1_3) (v:=.bool false) (by kernel_rfl) rfl (fun _ _ _ h=>h) ?_ (z0) ?_
  ·intro w hSw;go_simp<;>first|omega|(intro hh;exfalso;omega)|rfl
  try simp only[Act.put,qa,qb,qc,vcrs1_3]
  refine wpAnyH_take (i:=4) (oi:=vcrs1_4) (v:=undef) rfl (by kernel_rfl) (by kernel_rfl) (by kernel_rfl) (fun _ _ _ h=>h) (Or.inr ⟨by kernel_rfl,rfl⟩) (z0) ?_
  try simp only[Act.put,qa,qb,qc,vcrs1_4]
  refine wpAnyH_take (i:=5) (oi:=vcrs1_5) (v:=undef) rfl (by kernel_rfl) (by kernel_rfl) (by kernel_rfl) (fun _ _ _ h=>h) (Or.inr ⟨by kernel_rfl,rfl⟩) (z0) ?_
  try simp only[Act.put,qa,qb,qc,vcrs1_5]
  refine wpAnyH_take (i:=6) (oi:=vcrs1_6) (v:=undef) rfl (by kernel_rfl) (by kernel_rfl) (by kernel_rfl) (fun _ _ _ h=>h) (Or.inr ⟨by kernel_rfl,rfl⟩) (z0) ?_
  try simp only[Act.put,qa,qb,qc,vcrs1_6]
  refine tkH (i:=7) (oi:=vcrs1_7) (v:=.bool false) (by kernel_rfl) rfl (fun _ _ _ h=>h) ?_ (z0) ?_
  ·intro w hSw;go_simp<;>first|omega|(intro hh;exfalso;omega)|rfl
  try simp only[Act.put,qa,qb,qc,vcrs1_7]
  refine tkH (i:=8) (oi:=vcrs1_8) (v:=.bool false) (by kernel_rfl) rfl (fun _ _ _ h=>h) ?_ (z0) ?_
  ·intro w hSw;go_simp<;>first|omega|(intro hh;exfalso;omega)|rfl
  try simp only[Act.put,qa,qb,qc,vcrs1_8]
  refine wpAnyH_take (i:=9) (oi:=vcrs1_9) (v:=undef) rfl (by kernel_rfl) (by kernel_rfl) (by kernel_rfl) (fun _ _ _ h=>h) (Or.inr ⟨by kernel_rfl,rfl⟩) (z0) ?_
  try simp only[Act.put,qa,qb,qc,vcrs1_9]
  refine wpAnyH_take (i:=10) (oi:=vcrs1_10) (v:=undef) rfl (by kernel_rfl) (by kernel_rfl) (by kernel_rfl) (fun _ _ _ h=>h) (Or.inr ⟨by kernel_rfl,rfl⟩) (z0) ?_
  try simp only[Act.put,qa,qb,qc,vcrs1_10]
  refine wpAnyH_take (i:=11) (oi:=vcrs1_11) (v:=undef) rfl (by kernel_rfl) (by kernel_rfl) (by kernel_rfl) (fun _ _ _ h=>h) (Or.inr ⟨by kernel_rfl,rfl⟩) (z0) ?_
  try simp only[Act.put,qa,qb,qc,vcrs1_11]
  refine wpAnyH_take (i:=12) (oi:=vcrs1_12) (v:=undef) rfl (by kernel_rfl) (by kernel_rfl) (by kernel_rfl) (fun _ _ _ h=>h) (Or.inr ⟨by kernel_rfl,rfl⟩) (z0) ?_
  try simp only[Act.put,qa,qb,qc,vcrs1_12]
  refine wpAnyH_take (i:=13) (oi:=vcrs1_13) (v:=undef) rfl (by kernel_rfl) (by kernel_rfl) (by kernel_rfl) (fun _ _ _ h=>h) (Or.inr ⟨by kernel_rfl,rfl⟩) (z0) ?_
  try simp only[Act.put,qa,qb,qc,vcrs1_13]
  refine wpAnyH_take (i:=14) (oi:=vcrs1_14) (v:=undef) rfl (by kernel_rfl) (by kernel_rfl) (by kernel_rfl) (fun _ _ _ h=>h) (Or.inr ⟨by kernel_rfl,rfl⟩) (z0) ?_
  try simp only[Act.put,qa,qb,qc,vcrs1_14]
  refine wpAnyH_take (i:=15) (oi:=vcrs1_15) (v:=undef) rfl (by kernel_rfl) (by kernel_rfl) (by kernel_rfl) (fun _ _ _ h=>h) (Or.inr ⟨by kernel_rfl,rfl⟩) (z0) ?_
  try simp only[Act.put,qa,qb,qc,vcrs1_15]
  refine wpAnyH_take (i:=16) (oi:=vcrs1_16) (v:=undef) rfl (by kernel_rfl) (by kernel_rfl) (by kernel_rfl) (fun _ _ _ h=>h) (Or.inr ⟨by kernel_rfl,rfl⟩) (z0) ?_
  try simp only[Act.put,qa,qb,qc,vcrs1_16]
  refine tkH (i:=17) (oi:=vcrs1_17) (v:=.bool false) (by kernel_rfl) rfl (fun _ _ _ h=>h) ?_ (z0) ?_
  ·intro w hSw;go_simp<;>first|omega|(intro hh;exfalso;omega)|rfl
  try simp only[Act.put,qa,qb,qc,vcrs1_17]
  refine tkH (i:=18) (oi:=vcrs1_18) (v:=.bool false) (by kernel_rfl) rfl (fun _ _ _ h=>h) ?_ (z0) ?_
  ·intro w hSw;go_simp<;>first|omega|(intro hh;exfalso;omega)|rfl
  try simp only[Act.put,qa,qb,qc,vcrs1_18]
  refine wpAnyH_done (by kernel_rfl) ?_ _
  have ZZ:=Lib.hid (below_seq HB1.out z0)
  go_wp2_with fail
  go_ret
  exact ⟨by rw[HZ.out];rfl,ZZ.out⟩
 ·have c1:(low == [])=false:=beq_eq_false_iff_ne.2 h1
  have e1:low.isEmpty=false:=by cases low with|nil=>exact absurd rfl h1|cons a b=>rfl
  by_cases h2:up = []
  ·have c2:(up == [])=true:=beq_iff_eq.2 h2
   have HZ:Hid (b=false):=Lib.hid (by rw[hM.out,h2];simp)
   clear h1 h2 hM hlo hup
   refine wp_region_held (S:=fun W=>Below w1.heap.size w1 W) (by kernel_rfl) ?_
   change wpAnyH _ _ _ _ _ _ _ _ (World.drew _)
   obtain ⟨W0,hW0⟩:∃ X,X=(w1).drew:=⟨_,rfl⟩
   rw[← hW0]
   have z0:Below (w1).heap.size (w1) W0:=by rw[hW0];exact Below.drewN_ (Below.refl _ _) 1
   clear hW0
   refine tkH (i:=0) (oi:=vcrs1_0) (v:=.pointer (some ⟨p1,1,none⟩)) (by kernel_rfl) rfl (fun _ _ _ h=>h) ?_ (z0) ?_
   ·intro w hSw;go_simp<;>first|omega|(intro hh;exfalso;omega)|rfl
   try simp only[Act.put,qa,qb,qc,vcrs1_0]
   refine tkH (i:=1) (oi:=vcrs1_1) (v:=.string ⟨low.toArray⟩) (by kernel_rfl) rfl (fun _ _ _ h=>h) ?_ (z0) ?_
   ·intro w hSw;obtain ⟨C1,C2⟩:=HA'.out w hSw;go_simp<;>first|omega|(intro hh;exfalso;omega)|rfl
   try simp only[Act.put,qa,qb,qc,vcrs1_1]
   refine tkH (i:=2) (oi:=vcrs1_2) (v:=.bool true) (by kernel_rfl) rfl (fun _ _ _ h=>h) ?_ (z0) ?_
   ·intro w hSw;go_simp<;>first|omega|(intro hh;exfalso;omega)|rfl
   try simp only[Act.put,qa,qb,qc,vcrs1_2]
   refine tkH (i:=3) (oi:=vcrs1_3) (v:=.bool true) (by kernel_rfl) rfl (fun _ _ _ h=>h) ?_ (z0) ?_
   ·intro w hSw;go_simp<;>first|omega|(intro hh;exfalso;omega)|rfl
   try simp only[Act.put,qa,qb,qc,vcrs1_3]
   refine tkH (i:=4) (oi:=vcrs1_4) (v:=.pointer (some ⟨p1,2,none⟩)) (by kernel_rfl) rfl (fun _ _ _ h=>h) ?_ (z0) ?_
   ·intro w hSw;go_simp<;>first|omega|(intro hh;exfalso;omega)|rfl
   try simp only[Act.put,qa,qb,qc,vcrs1_4]
   refine tkH (i:=5) (oi:=vcrs1_5) (v:=.string ⟨up.toArray⟩) (by kernel_rfl) rfl (fun _ _ _ h=>h) ?_ (z0) ?_
   ·intro w hSw;obtain ⟨C1,C2⟩:=HA'.out w hSw;go_simp<;>first|omega|(intro hh;exfalso;omega)|rfl
   try simp only[Act.put,qa,qb,qc,vcrs1_5]
   refine tkH (i:=6) (oi:=vcrs1_6) (v:=.bool false) (by kernel_rfl) rfl (fun _ _ _ h=>h) ?_ (z0) ?_
   ·intro w hSw;go_simp<;>first|omega|(intro hh;exfalso;omega)|rfl
   try simp only[Act.put,qa,qb,qc,vcrs1_6]
   refine tkH (i:=7) (oi:=vcrs1_7) (v:=.bool false) (by kernel_rfl) rfl (fun _ _ _ h=>h) ?_ (z0) ?_
   ·intro w hSw;go_simp<;>first|omega|(intro hh;exfalso;omega)|rfl
   try simp only[Act.put,qa,qb,qc,vcrs1_7]
   refine tkH (i:=8) (oi:=vcrs1_8) (v:=.bool false) (by kernel_rfl) rfl (fun _ _ _ h=>h) ?_ (z0) ?_
   ·intro w hSw;go_simp<;>first|omega|(intro hh;exfalso;omega)|rfl
   try simp only[Act.put,qa,qb,qc,vcrs1_8]
   refine wpAnyH_take (i:=9) (oi:=vcrs1_9) (v:=undef) rfl (by kernel_rfl) (by kernel_rfl) (by kernel_rfl) (fun _ _ _ h=>h) (Or.inr ⟨by kernel_rfl,rfl⟩) (z0) ?_
   try simp only[Act.put,qa,qb,qc,vcrs1_9]
   refine wpAnyH_take (i:=10) (oi:=vcrs1_10) (v:=undef) rfl (by kernel_rfl) (by kernel_rfl) (by kernel_rfl) (fun _ _ _ h=>h) (Or.inr ⟨by kernel_rfl,rfl⟩) (z0) ?_
   try simp only[Act.put,qa,qb,qc,vcrs1_10]
   refine wpAnyH_take (i:=11) (oi:=vcrs1_11) (v:=undef) rfl (by kernel_rfl) (by kernel_rfl) (by kernel_rfl) (fun _ _ _ h=>h) (Or.inr ⟨by kernel_rfl,rfl⟩) (z0) ?_
   try simp only[Act.put,qa,qb,qc,vcrs1_11]
   refine wpAnyH_take (i:=12) (oi:=vcrs1_12) (v:=undef) rfl (by kernel_rfl) (by kernel_rfl) (by kernel_rfl) (fun _ _ _ h=>h) (Or.inr ⟨by kernel_rfl,rfl⟩) (z0) ?_
   try simp only[Act.put,qa,qb,qc,vcrs1_12]
   refine wpAnyH_take (i:=13) (oi:=vcrs1_13) (v:=undef) rfl (by kernel_rfl) (by kernel_rfl) (by kernel_rfl) (fun _ _ _ h=>h) (Or.inr ⟨by kernel_rfl,rfl⟩) (z0) ?_
   try simp only[Act.put,qa,qb,qc,vcrs1_13]
   refine wpAnyH_take (i:=14) (oi:=vcrs1_14) (v:=undef) rfl (by kernel_rfl) (by kernel_rfl) (by kernel_rfl) (fun _ _ _ h=>h) (Or.inr ⟨by kernel_rfl,rfl⟩) (z0) ?_
   try simp only[Act.put,qa,qb,qc,vcrs1_14]
   refine wpAnyH_take (i:=15) (oi:=vcrs1_15) (v:=undef) rfl (by kernel_rfl) (by kernel_rfl) (by kernel_rfl) (fun _ _ _ h=>h) (Or.inr ⟨by kernel_rfl,rfl⟩) (z0) ?_
   try simp only[Act.put,qa,qb,qc,vcrs1_15]
   refine wpAnyH_take (i:=16) (oi:=vcrs1_16) (v:=undef) rfl (by kernel_rfl) (by kernel_rfl) (by kernel_rfl) (fun _ _ _ h=>h) (Or.inr ⟨by kernel_rfl,rfl⟩) (z0) ?_
   try simp only[Act.put,qa,qb,qc,vcrs1_16]
   refine tkH (i:=17) (oi:=vcrs1_17) (v:=.bool false) (by kernel_rfl) rfl (fun _ _ _ h=>h) ?_ (z0) ?_
   ·intro w hSw;go_simp<;>first|omega|(intro hh;exfalso;omega)|rfl
   try simp only[Act.put,qa,qb,qc,vcrs1_17]
   refine tkH (i:=18) (oi:=vcrs1_18) (v:=.bool false) (by kernel_rfl) rfl (fun _ _ _ h=>h) ?_ (z0) ?_
   ·intro w hSw;go_simp<;>first|omega|(intro hh;exfalso;omega)|rfl
   try simp only[Act.put,qa,qb,qc,vcrs1_18]
   refine wpAnyH_done (by kernel_rfl) ?_ _
   have ZZ:=Lib.hid (below_seq HB1.out z0)
   go_wp2_with fail
   go_ret
   exact ⟨by rw[HZ.out];rfl,ZZ.out⟩
  ·have c2:(up == [])=false:=beq_eq_false_iff_ne.2 h2
   have e2:up.isEmpty=false:=by cases up with|nil=>exact absurd rfl h2|cons a b=>rfl
   have HZ:Hid (b=decide (0<signI (fracOf low - fracOf up))):=Lib.hid (by
    rw[hM.out,e1,e2,signI_pos]
    simp only[Bool.not_false,Bool.true_and]
    exact decide_eq_decide.2 (num_pos _ _).symm)
   have hg1:FracGood low:=by unfold maybeM numberM at hlo;rw[e1]at hlo;simpa using hlo
   have hg2:FracGood up:=by unfold maybeM numberM at hup;rw[e2]at hup;simpa using hup
   have CL:Hid (∀ W,Below w1.heap.size w1 W→Calls Tryz.prog 99 #[.string ⟨low.toArray⟩] W (fun e w'=>∃ x,e=.returned x∧FracPtr w' x (fracOf low)∧Fits 1000000 (fracOf low)∧Below W.heap.size W w')):=Lib.hid fun W hW=>split_number W low hl (HT.out.keep hW) hg1
   have CU:Hid (∀ W,Below w1.heap.size w1 W→Calls Tryz.prog 99 #[.string ⟨up.toArray⟩] W (fun e w'=>∃ x,e=.returned x∧FracPtr w' x (fracOf up)∧Fits 1000000 (fracOf up)∧Below W.heap.size W w')):=Lib.hid fun W hW=>split_number W up hu (HT.out.keep hW) hg2
   clear h1 h2 hM hlo hup e1 e2 hg1 hg2
   refine wp_region_held (S:=fun W=>Below w1.heap.size w1 W) (by kernel_rfl) ?_
   change wpAnyH _ _ _ _ _ _ _ _ (World.drew _)
   obtain ⟨W0,hW0⟩:∃ X,X=(w1).drew:=⟨_,rfl⟩
   rw[← hW0]
   have z0:Below (w1).heap.size (w1) W0:=by rw[hW0];exact Below.drewN_ (Below.refl _ _) 1
   clear hW0
   refine tkH (i:=0) (oi:=vcrs1_0) (v:=.pointer (some ⟨p1,1,none⟩)) (by kernel_rfl) rfl (fun _ _ _ h=>h) ?_ (z0) ?_
   ·intro w hSw;go_simp<;>first|omega|(intro hh;exfalso;omega)|rfl
   try simp only[Act.put,qa,qb,qc,vcrs1_0]
   refine tkH (i:=1) (oi:=vcrs1_1) (v:=.string ⟨low.toArray⟩) (by kernel_rfl) rfl (fun _ _ _ h=>h) ?_ (z0) ?_
   ·intro w hSw;obtain ⟨C1,C2⟩:=HA'.out w hSw;go_simp<;>first|omega|(intro hh;exfalso;omega)|rfl
   try simp only[Act.put,qa,qb,qc,vcrs1_1]
   refine tkH (i:=2) (oi:=vcrs1_2) (v:=.bool true) (by kernel_rfl) rfl (fun _ _ _ h=>h) ?_ (z0) ?_
   ·intro w hSw;go_simp<;>first|omega|(intro hh;exfalso;omega)|rfl
   try simp only[Act.put,qa,qb,qc,vcrs1_2]
   refine tkH (i:=3) (oi:=vcrs1_3) (v:=.bool true) (by kernel_rfl) rfl (fun _ _ _ h=>h) ?_ (z0) ?_
   ·intro w hSw;go_simp<;>first|omega|(intro hh;exfalso;omega)|rfl
   try simp only[Act.put,qa,qb,qc,vcrs1_3]
   refine tkH (i:=4) (oi:=vcrs1_4) (v:=.pointer (some ⟨p1,2,none⟩)) (by kernel_rfl) rfl (fun _ _ _ h=>h) ?_ (z0) ?_
   ·intro w hSw;go_simp<;>first|omega|(intro hh;exfalso;omega)|rfl
   try simp only[Act.put,qa,qb,qc,vcrs1_4]
   refine tkH (i:=5) (oi:=vcrs1_5) (v:=.string ⟨up.toArray⟩) (by kernel_rfl) rfl (fun _ _ _ h=>h) ?_ (z0) ?_
   ·intro w hSw;obtain ⟨C1,C2⟩:=HA'.out w hSw;go_simp<;>first|omega|(intro hh;exfalso;omega)|rfl
   try simp only[Act.put,qa,qb,qc,vcrs1_5]
   refine tkH (i:=6) (oi:=vcrs1_6) (v:=.bool true) (by kernel_rfl) rfl (fun _ _ _ h=>h) ?_ (z0) ?_
   ·intro w hSw;go_simp<;>first|omega|(intro hh;exfalso;omega)|rfl
   try simp only[Act.put,qa,qb,qc,vcrs1_6]
   refine tkH (i:=7) (oi:=vcrs1_7) (v:=.bool true) (by kernel_rfl) rfl (fun _ _ _ h=>h) ?_ (z0) ?_
   ·intro w hSw;go_simp<;>first|omega|(intro hh;exfalso;omega)|rfl
   try simp only[Act.put,qa,qb,qc,vcrs1_7]
   refine tkH (i:=8) (oi:=vcrs1_8) (v:=.bool true) (by kernel_rfl) rfl (fun _ _ _ h=>h) ?_ (z0) ?_
   ·intro w hSw;go_simp<;>first|omega|(intro hh;exfalso;omega)|rfl
   try simp only[Act.put,qa,qb,qc,vcrs1_8]
   refine tkH (i:=9) (oi:=vcrs1_9) (v:=.pointer (some ⟨p1,1,none⟩)) (by kernel_rfl) rfl (fun _ _ _ h=>h) ?_ (z0) ?_
   ·intro w hSw;go_simp<;>first|omega|(intro hh;exfalso;omega)|rfl
   try simp only[Act.put,qa,qb,qc,vcrs1_9]
   refine tkH (i:=10) (oi:=vcrs1_10) (v:=.string ⟨low.toArray⟩) (by kernel_rfl) rfl (fun _ _ _ h=>h) ?_ (z0) ?_
   ·intro w hSw;obtain ⟨C1,C2⟩:=HA'.out w hSw;go_simp<;>first|omega|(intro hh;exfalso;omega)|rfl
   try simp only[Act.put,qa,qb,qc,vcrs1_10]
   refine tkH (i:=12) (oi:=vcrs1_12) (v:=.pointer (some ⟨p1,2,none⟩)) (by kernel_rfl) rfl (fun _ _ _ h=>h) ?_ (z0) ?_
   ·intro w hSw;go_simp<;>first|omega|(intro hh;exfalso;omega)|rfl
   try simp only[Act.put,qa,qb,qc,vcrs1_12]
   refine tkH (i:=13) (oi:=vcrs1_13) (v:=.string ⟨up.toArray⟩) (by kernel_rfl) rfl (fun _ _ _ h=>h) ?_ (z0) ?_
   ·intro w hSw;obtain ⟨C1,C2⟩:=HA'.out w hSw;go_simp<;>first|omega|(intro hh;exfalso;omega)|rfl
   try simp only[Act.put,qa,qb,qc,vcrs1_13]
   refine oneH (i:=11) (o:=vcrs1_11) (by kernel_rfl) rfl ?_
   intro K hK
   simp only[vcrs1_11]
   go_simp
   go_at_call 99
   refine (CL.out _ z0).mono ?_
   rintro e' V1 ⟨x1,rfl,hx1,hf1,b1⟩
   obtain ⟨q1,rfl⟩:=hx1.ptr
   have z1:=below_seq z0 b1
   refine hK.out _ _ (z1) (fun hHeld=>?_)
   clear hK K hHeld
   try simp only[Act.put,qa,qb,qc]
   refine oneH (i:=14) (o:=vcrs1_14) (by kernel_rfl) rfl ?_
   intro K hK
   simp only[vcrs1_14]
   go_simp
   go_at_call 99
   refine (CU.out _ z1).mono ?_
   rintro e' V2 ⟨x2,rfl,hx2,hf2,b2⟩
   obtain ⟨q2,rfl⟩:=hx2.ptr
   have z2:=below_seq z1 b2
   refine hK.out _ _ (z2) (fun hHeld=>?_)
   clear hK K hHeld
   try simp only[Act.put,qa,qb,qc]
   refine oneH (i:=15) (o:=vcrs1_15) (by kernel_rfl) rfl ?_
   intro K hK
   simp only[vcrs1_15]
   go_simp
   go_at_call 160
   refine (frac_Cmp V2 _ _ _ _ (hx1.keep b2).at_ hx2.at_ hf1 hf2).mono ?_
   rintro e' V3 ⟨rfl,b3⟩
   have z3:=below_seq z2 b3
   generalize signI (fracOf low - fracOf up)=sg at HZ ⊢
   clear hx1 hx2 hf1 hf2
   refine hK.out _ _ (z3) (fun hHeld=>?_)
   clear hK K hHeld
   try simp only[Act.put,qa,qb,qc]
   refine tkH (i:=16) (oi:=vcrs1_16) (v:=.bool (decide (0<sg))) (by kernel_rfl) rfl (fun _ _ _ h=>h) ?_ (z3) ?_
   ·intro w hSw;go_simp<;>first|omega|(intro hh;exfalso;omega)|rfl
   try simp only[Act.put,qa,qb,qc,vcrs1_16]
   refine tkH (i:=17) (oi:=vcrs1_17) (v:=.bool (decide (0<sg))) (by kernel_rfl) rfl (fun _ _ _ h=>h) ?_ (z3) ?_
   ·intro w hSw;go_simp<;>first|omega|(intro hh;exfalso;omega)|rfl
   try simp only[Act.put,qa,qb,qc,vcrs1_17]
   refine tkH (i:=18) (oi:=vcrs1_18) (v:=.bool (decide (0<sg))) (by kernel_rfl) rfl (fun _ _ _ h=>h) ?_ (z3) ?_
   ·intro w hSw;go_simp<;>first|omega|(intro hh;exfalso;omega)|rfl
   try simp only[Act.put,qa,qb,qc,vcrs1_18]
   refine wpAnyH_done (by kernel_rfl) ?_ _
   have ZZ:=Lib.hid (below_seq HB1.out z3)
   go_wp2_with fail
   go_ret
   exact ⟨by rw[HZ.out];rfl,ZZ.out⟩
end Go.Proofs.YtbdfhnelmojbpaaGreatDoor
end
section
namespace Vic
open Go Go.RowKit
theorem SlIn.take_ {α:Type}{R:World→Nat→Nat→α→Prop}{size:Nat}{w:World}{A:Option Addr}{n c:Nat}{l:List α}(h:SlIn R size w (.slice A n c) l) {k:Nat}(hk:k≤l.length):SlIn R size w (.slice A k c) (l.take k):=by
 obtain ⟨A',c',e,h2,h3⟩:=h
 injection e with e1 e2 e3
 subst e1;subst e3
 have hl:(l.take k).length=k:=by rw[List.length_take,Nat.min_eq_left hk]
 refine ⟨A,c,by rw[hl],by rw[hl];omega,fun i x hx=>?_⟩
 have hi:i<k:=by have:=(List.getElem?_eq_some_iff.1 hx).1;omega
 rw[List.getElem?_take_of_lt hi]at hx
 exact h3 i x hx
theorem SlIn.drop_ {α:Type}{R:World→Nat→Nat→α→Prop}{size:Nat}{w:World}{g o n c:Nat}{l:List α}(h:SlIn R size w (.slice (some ⟨g,o,none⟩) n c) l) {k:Nat}(hk:k≤l.length):SlIn R size w (.slice (some ⟨g,o+k*size,none⟩) (n - k) (c - k)) (l.drop k):=by
 obtain ⟨A',c',e,h2,h3⟩:=h
 injection e with e1 e2 e3
 subst e1;subst e3
 have hl:(l.drop k).length=n - k:=by rw[List.length_drop,e2]
 refine ⟨_,_,by rw[hl],by rw[hl];omega,fun i x hx=>?_⟩
 rw[List.getElem?_drop]at hx
 obtain ⟨g',o',e,h4⟩:=h3 (k+i) x hx
 injection e with e
 injection e with e4 e5
 subst e4;subst e5
 exact ⟨g,o+k*size,rfl,by rw[show o+k*size+i*size=o+(k+i)*size by rw[Nat.add_mul];omega];exact h4⟩
theorem SlIn.some_ {α:Type}{R:World→Nat→Nat→α→Prop}{size:Nat}{w:World}{A:Option Addr}{n c:Nat}{l:List α}(h:SlIn R size w (.slice A n c) l) (hl:0<l.length):∃ g o,A=some ⟨g,o,none⟩:=by
 obtain ⟨A',c',e,_,h3⟩:=h
 injection e with e1 _ _
 subst e1
 obtain ⟨g,o,e,_⟩:=h3 0 _ (List.getElem?_eq_getElem hl)
 exact ⟨g,o,e⟩
end Vic
namespace Go.Proofs.YtbdfhnelmojbpaaGreatDoor
open Go.RowKit Vic
set_option maxRecDepth 100000 in
set_option maxHeartbeats 8000000 in
theorem split_look (w:World) (v:Value) (c:CoreM) (col row:Nat) (hv:CoreIn w v c) (hf:FitCore c) (hb:∀ x∈c.cols,maybeM x.low=true∧maybeM x.up=true) (hcf:∀ r∈c.rows,r.coef.length≤1000000) (ht:Tab w) (hc:col<c.cols.length) (hr:row<c.rows.length):Calls Tryz.prog 31 #[v,.int .i64 col,.int .i64 row] w (Keeps (.int .i64 (lookM c col row)) w):=by
 have hM:Hid (lookM c col row=if (c.rows.take row).any (fun r=>r.coef.any fun x=>decide ((col:Int)≤x.1))then 5 else if (c.cols.drop col).any (fun x=>x.int)then 7 else if (c.cols.take col).any openM || c.cols.any crossesM then 10 else 0):=rfl
 obtain ⟨rv,cv,rfl,hrs,hcs⟩:=hv
 obtain ⟨rA,rc,rfl,hrc,_⟩:=id hrs
 obtain ⟨cA,cc,rfl,hcc,_⟩:=id hcs
 obtain ⟨g,o,rfl⟩:=SlIn.some_ hrs (by omega)
 obtain ⟨g',o',rfl⟩:=SlIn.some_ hcs (by omega)
 have hrl:c.rows.length≤1000000:=hf.rl
 have hcl:c.cols.length≤1000000:=hf.cl
 obtain ⟨w1,hw1⟩:∃ X,X=(w.alloc (.cells #[.string ⟨c.name.toArray⟩,.string ⟨c.obj.toArray⟩,.slice (some ⟨g,o,none⟩) c.rows.length rc,.slice (some ⟨g',o',none⟩) c.cols.length cc] 34)).alloc (.cells #[.int .i64 col] 3):=⟨_,rfl⟩
 have hb1:Below w.heap.size w w1:=by rw[hw1];exact ((Below.refl _ _).alloc (Nat.le_refl _) _).alloc (by simp) _
 have hrow:=(Row.new w 34 #[.string ⟨c.name.toArray⟩,.string ⟨c.obj.toArray⟩,.slice (some ⟨g,o,none⟩) c.rows.length rc,.slice (some ⟨g',o',none⟩) c.cols.length cc]).alloc (.cells #[.int .i64 col] 3)
 rw[← hw1]at hrow
 have c2:w1.cell? ⟨w.heap.size,2,none⟩=some (.slice (some ⟨g,o,none⟩) c.rows.length rc):=hrow.cell 2
 have c3:w1.cell? ⟨w.heap.size,3,none⟩=some (.slice (some ⟨g',o',none⟩) c.cols.length cc):=hrow.cell 3
 have s0:w1.cell? ⟨w.heap.size+1,0,none⟩=some (.int .i64 col):=by
  have:=(Row.new (w.alloc (.cells #[.string ⟨c.name.toArray⟩,.string ⟨c.obj.toArray⟩,.slice (some ⟨g,o,none⟩) c.rows.length rc,.slice (some ⟨g',o',none⟩) c.cols.length cc] 34)) 3 #[.int .i64 col]).cell 0
  rw[World.size_alloc,← hw1]at this
  exact this
 have C1:=Lib.hid (anyf_row (p:=fun r=>r.coef.any fun x=>decide ((col:Int)≤x.1)) w1 _ (c.rows.take row) ((SlIn.take_ hrs (by omega)).keep RowR.firm hb1) (by rw[List.length_take];omega) enter_slook1 (lb:=#[.pointer (some ⟨w.heap.size+1,0,none⟩)]) fun W r cv hr' hW hc'=>slook1 W r cv hc' (hcf r (List.mem_of_mem_take hr')) _ col (cell_keep s0 hW))
 have C2:Hid (∀ W,Below w1.heap.size w1 W→Calls Tryz.prog 81 #[.slice (some ⟨g',o'+col*5,none⟩) (c.cols.length - col) (cc - col),.func (.func 96) #[] #[]] W (Keeps (.bool ((c.cols.drop col).any fun x=>x.int)) W)):=Lib.hid fun W hW=>anyf_col W _ _ ((SlIn.drop_ hcs (by omega)).keep ColR.firm (below_seq hb1 hW)) (by rw[List.length_drop];omega) enter_slook2 fun W2 x _ _=>slook2 W2 x
 have C3:Hid (∀ W,Below w1.heap.size w1 W→Calls Tryz.prog 81 #[.slice (some ⟨g',o',none⟩) col cc,.func (.func 97) #[] #[]] W (Keeps (.bool ((c.cols.take col).any openM)) W)):=Lib.hid fun W hW=>anyf_col W _ _ ((SlIn.take_ hcs (by omega)).keep ColR.firm (below_seq hb1 hW)) (by rw[List.length_take];omega) enter_sopen fun W2 x _ _=>sopen W2 x
 have C4:Hid (∀ W,Below w1.heap.size w1 W→Calls Tryz.prog 81 #[.slice (some ⟨g',o',none⟩) c.cols.length cc,.func (.func 98) #[] #[]] W (Keeps (.bool (c.cols.any crossesM)) W)):=Lib.hid fun W hW=>anyf_col W _ _ (hcs.keep ColR.firm (below_seq hb1 hW)) hcl enter_scrosses fun W2 x hx hW2=>scrosses W2 x (ht.keep (below_seq (below_seq hb1 hW) hW2)) (hf.cols x hx) (hb x hx).1 (hb x hx).2
 obtain ⟨k1,hk1⟩:∃ x,x=(c.rows.take row).any (fun r=>r.coef.any fun x=>decide ((col:Int)≤x.1)):=⟨_,rfl⟩
 obtain ⟨k2,hk2⟩:∃ x,x=(c.cols.drop col).any (fun x=>x.int):=⟨_,rfl⟩
 obtain ⟨k3,hk3⟩:∃ x,x=(c.cols.take col).any openM:=⟨_,rfl⟩
 obtain ⟨k4,hk4⟩:∃ x,x=c.cols.any crossesM:=⟨_,rfl⟩
 rw[← hk1]at C1 hM
 rw[← hk2]at C2 hM
 rw[← hk3]at C3 hM
 rw[← hk4]at C4 hM
 generalize lookM c col row=res at *
 obtain ⟨nr,hnr⟩:∃ n,n=c.rows.length:=⟨_,rfl⟩
 obtain ⟨nc,hnc⟩:∃ n,n=c.cols.length:=⟨_,rfl⟩
 rw[← hnr]at hr hrc hrl c2
 rw[← hnc]at hc hcc hcl c3 C2 C4
 have HB1:=Lib.hid hb1
 have hr1:(row:Int)≤(rc:Int):=by omega
 have hc1:(col:Int)≤(nc:Int):=by omega
 have hc2:(col:Int)≤(cc:Int):=by omega
 clear hk1 hk2 hk3 hk4 hrow hb1 ht hrs hcs hf hb hcf
 go_enter Tryz.func31,Tryz.ntmps31
 go_upto_region 1 with fail
 rw[← hnr,← hnc]at hw1
 try rw[← hnr,← hnc]
 rw[← hw1]
 clear hw1 hnr hnc
 go_wp2_with fail
 refine C1.out.mono ?_
 rintro e w2 ⟨rfl,h2⟩
 have d3:=cell_keep c3 h2
 have s2:=cell_keep s0 h2
 have P2:=Lib.hid (C2.out w2 h2)
 have H2:=Lib.hid h2
 clear h2 c2 c3 s0 C1 C2
 cases k1
 ·go_wp2_with fail
  refine P2.out.mono ?_
  rintro e w3 ⟨rfl,h3⟩
  have e3:=cell_keep d3 h3
  have s3:=cell_keep s2 h3
  have H3:=Lib.hid (below_seq H2.out h3)
  have P3:=Lib.hid (C3.out w3 H3.out)
  clear h3 d3 s2 P2 C3 H2
  cases k2
  ·go_wp2_with fail
   refine P3.out.mono ?_
   rintro e w4 ⟨rfl,h4⟩
   have f3:=cell_keep e3 h4
   have H4:=Lib.hid (below_seq H3.out h4)
   have P4:=Lib.hid (C4.out w4 H4.out)
   clear h4 e3 s3 P3 C4 H3
   cases k3
   ·go_wp2_with fail
    refine P4.out.mono ?_
    rintro e w5 ⟨rfl,h5⟩
    have H5:=Lib.hid (below_seq HB1.out (below_seq H4.out h5))
    clear h5 f3
    cases k4
    ·go_wp2_with fail
     go_ret
     exact ⟨by rw[hM.out];rfl,H5.out⟩
    ·go_wp2_with fail
     go_ret
     exact ⟨by rw[hM.out];rfl,H5.out⟩
   ·go_wp2_with fail
    go_ret
    exact ⟨by rw[hM.out];rfl,below_seq HB1.out H4.out⟩
  ·go_wp2_with fail
   go_ret
   exact ⟨by rw[hM.out];rfl,below_seq HB1.out H3.out⟩
 ·go_wp2_with fail
  go_ret
  exact ⟨by rw[hM.out];rfl,below_seq HB1.out H2.out⟩
end Go.Proofs.YtbdfhnelmojbpaaGreatDoor
end
