/- The law VecAll, for every input: it returns true, in whatever memory; the package variables that it lists as the program's text lays them (the card ties them). -/
import Derived.Test.YtehbhghbagaliaaGreatDoorJCardLaw
import Derived.Test.YtehbhghbagaliaaGreatDoorJLawVecAll
import Derived.Test.YtehbhghbagaliaaGreatDoorTie
import Derived.Test.YtehbhghbagaliaaGreatDoorCards
import Derived.Carry
import Derived.Test.YtehbhghbagaliaaGreatDoorJCardMany
import Derived.Test.YtehbhghbagaliaaGreatDoorJCardSlices
set_option linter.unusedVariables false
namespace Go.Proofs.YtehbhghbagaliaaGreatDoor.vecAll
open Go.ChangeShapes Go.WideShapes Go.ChangeAt Go.RowKit Vic
open Go.ChangeMaps (open_string shut_string)
set_option maxRecDepth 100000 in
theorem lifted (os:Os) (started:os.Started) (H:Type) (enc:TypeId × Value→H) :
 ReturnsInHanded {} Tryz.checked os 3 .any (fun w args=>(Rows.vecAllSpec.pre enc Tryz.prog Tryz.f3 [] false w args∧laidMetH Tryz.prog Rows.vecAllRow.laid w)∧sizedMet enc Tryz.prog Tryz.f3 (OpenSpec.ofChange Rows.vecAllSpec) false w args)
  (Rows.vecAllSpec.post enc Tryz.prog Tryz.f3 false true false false):=by
 refine returns_of_both (C:=Tryz.checked) (X:=fun w _=>laidMetH Tryz.prog Rows.vecAllRow.laid w) (fun _ _ _ hh h=>h.of_heap hh) own started (by kernel_rfl) Tryz.func3
  (ChangeSpec.witness_shaped (enc:=enc) (C:=Tryz.checked) (os:=os) (X:=fun w _=>laidMetH Tryz.prog Rows.vecAllRow.laid w) false (World.laidAll Tryz.prog os Rows.vecAllRow.laid) #[.slice none 0 0,.slice none 0 0,.slice none 0 0,.slice none 0 0,.string ⟨#[]⟩] 8 (World.laidAll_os _ _ _)
   (World.shaped_of_ZipB (by kernel_rfl) (by kernel_rfl)) (by kernel_rfl) (by kernel_rfl) (by kernel_rfl)
   (by rw[MakeChecks.laidMetH_plain _ _ _ (by kernel_rfl)];exact laidMet_laidAll _ (by kernel_rfl) (by kernel_rfl))) ?_
 intro W base args ds gs before hval0 hW _ _ hL hsh _
 have hval:∀ (j:Nat) t v,Tryz.f3.params[j]?=some t→args[j]?=some v→Value.okWide Tryz.prog W .any base t v:=hval0
 have hW':=hW
 obtain ⟨p,q,hA0,hV,rfl,_,_⟩:=hW
 have hA:DataW.TrodAll enc Tryz.prog W 0 (fun _=>true) true Tryz.f3.params.toList args.toList ds p:=hA0
 rw[Tryz.params3]at hA hval
 obtain ⟨v0,v1,v2,v3,v4,d0,d1,d2,d3,d4,p0,p1,p2,p3,p4,rfl,rfl,rfl,h0,h1,h2,h3,h4⟩:=trodAll_five hA
 obtain ⟨rfl,rfl⟩:=trodVars_none hV
 have g0:=h0
 have g1:=h1
 have g2:=h2
 have g3:=h3
 obtain ⟨x4,rfl,rfl,rfl,wx4⟩:=open_string Tryz.underlying9 (hval 4 9 v4 rfl rfl) h4
 simp only[List.append_nil]at hW'
 have hlt:∀ x∈p0 ++ p1 ++ p2 ++ p3,x.block<W.heap.size:=fun x hx=>by simpa using hW'.lt x (by simpa using hx)
 rw[MakeChecks.laidMetH_plain _ _ _ (by kernel_rfl)]at hL
 have hT:Tab W:=tab_of hL (by simp[Rows.vecAllRow]) hsh
 obtain ⟨xs0,ax0,lx0,bx0⟩:=ints_arg Tryz.underlying22 Tryz.underlying3 (by kernel_rfl) (hval 0 22 v0 rfl rfl) h0
 obtain ⟨xs1,ax1,lx1,bx1⟩:=ints_arg Tryz.underlying22 Tryz.underlying3 (by kernel_rfl) (hval 1 22 v1 rfl rfl) h1
 obtain ⟨xs2,ax2,lx2,bx2⟩:=strs_arg Tryz.underlying23 Tryz.underlying9 (by kernel_rfl) (hval 2 23 v2 rfl rfl) h2
 obtain ⟨xs3,ax3,lx3,bx3⟩:=strs_arg Tryz.underlying23 Tryz.underlying9 (by kernel_rfl) (hval 3 23 v3 rfl rfl) h3
 obtain ⟨l4,rfl⟩:∃ l:List UInt8,x4=⟨l.toArray⟩:=⟨x4.data.toList,rfl⟩
 refine (law_VecAll W hT v0 v1 v2 v3 l4 xs0 xs1 xs2 xs3 ax0 ax1 ax2 ax3 lx0 lx1 lx2 lx3 bx0 bx1 bx2 bx3 (str_len wx4)).mono fun e W' ⟨he,hb⟩=>?_
 subst he
 exact ⟨_,rfl,_,_,_,[],_,[],hW',trodAll_mk1 (shut_bool Tryz.underlying4 _),trodAll_mk5 (Below.trod laidOut (by kernel_rfl) (of_decide_eq_true (by kernel_rfl)) g0 hb (fun x hx=>hlt x (by simp[hx]))) (Below.trod laidOut (by kernel_rfl) (of_decide_eq_true (by kernel_rfl)) g1 hb (fun x hx=>hlt x (by simp[hx]))) (Below.trod laidOut (by kernel_rfl) (of_decide_eq_true (by kernel_rfl)) g2 hb (fun x hx=>hlt x (by simp[hx]))) (Below.trod laidOut (by kernel_rfl) (of_decide_eq_true (by kernel_rfl)) g3 hb (fun x hx=>hlt x (by simp[hx]))) (shut_string Tryz.underlying9 wx4),rfl,hb.frame _,fun h=>by cases h⟩
set_option maxHeartbeats 8000000 in
theorem holds:Rows.vecAllRow.holds Tryz.pinned (OpenSpec.ofChange Rows.vecAllSpec):=
 OpenClaim.holds_of_wide 3 Tryz.f3 rfl rfl rfl rfl rfl rfl rfl ⟨rfl,rfl,rfl,rfl,rfl⟩ rfl rfl rfl rfl rfl (by as_aux_lemma=>kernel_rfl) Tryz.func3 (by as_aux_lemma=>kernel_rfl)
  (of_decide_eq_true (by as_aux_lemma=>kernel_rfl)) (by unfold Func.isWrapper;first|(rw[if_pos (by as_aux_lemma=>decide +kernel)];as_aux_lemma=>kernel_rfl)|(rw[if_neg (by as_aux_lemma=>decide +kernel)];exact ⟨rfl,rfl⟩))
  (fun os started H enc _=>lifted os started H enc)
set_option maxHeartbeats 8000000 in
theorem proved:Rows.VecAllCardSaid:=
 Claim7.holds_tied_plain_at .later [] _ true _ true holds (fun _ h=>by cases h) (by as_aux_lemma=>kernel_rfl) (fun _ h=>by cases h) vecAll_row_tie rfl ⟨rfl,rfl⟩ (by as_aux_lemma=>kernel_rfl) rfl
  (fun f fn hf hfn=>by
   obtain rfl:f=3:=Option.some.inj ((show Tryz.prog.funcNamed "victualler/victuallerlaw1.VecAll" = some 3 by kernel_rfl).symm.trans hf) |>.symm
   obtain rfl:fn=Tryz.f3:=(Option.some.inj (Tryz.func3.symm.trans hfn)).symm
   exact ⟨by kernel_rfl,fun j t ht=>by
    rw[Tryz.params3]at ht
    have hm:t∈[22,22,23,23,9]:=by simpa using Array.mem_of_getElem? ht
    have hall:([22,22,23,23,9].all fun u=>!Tryz.prog.wantsStandIn u)=true:=by kernel_rfl
    exact (show Tryz.prog.wantsStandIn t=false by simpa using List.all_eq_true.1 hall t hm)⟩)
  (by as_aux_lemma=>kernel_rfl)
#print axioms proved
end Go.Proofs.YtehbhghbagaliaaGreatDoor.vecAll
