/- The law WriteTime, where what it is given is of bulk at most 1048576: it returns true, in whatever memory; the package variables that it lists as the program's text lays them (the card ties them). -/
import Derived.Test.YtbdfhnelmojbpaaGreatDoorCyLaw
import Derived.Test.YtbdfhnelmojbpaaGreatDoorWav
import Derived.Test.YtbdfhnelmojbpaaGreatDoorCyWtk
import Derived.Test.YtbdfhnelmojbpaaGreatDoorTie
import Derived.Test.YtbdfhnelmojbpaaGreatDoorCards
import Derived.Deep.DeepHandedRow
import Derived.JoinedCond
import Derived.Carry
set_option linter.unusedVariables false
set_option linter.unusedSimpArgs false
namespace Go.Proofs.YtbdfhnelmojbpaaGreatDoor.writeTime
open Go.ChangeShapes Go.WideShapes Go.ChangeAt Go.RowKit Vic
open Go.ChangeMaps (open_string shut_string)
theorem laidOut:laidOutB Tryz.prog=true:=by kernel_rfl
theorem reads (os:Os) {H:Type}(enc:TypeId × Value→H):∃ places,DataW.whole enc Tryz.prog ((World.laidAll Tryz.prog os Rows.writeTimeUptoRow.laid).forCall (fun _ _=>0) ⟨#[],#[.string ⟨#[]⟩,.slice none 0 0],[]⟩).memory Tryz.f5.params.toList Rows.writeTimeSpec.vars false #[Value.string ⟨#[]⟩,.slice none 0 0].toList 8=some ([.lit (.string []),.nil],[],places):=
 ⟨[],by kernel_rfl⟩
set_option maxRecDepth 100000 in
theorem lifted (os:Os) (started:os.Started) (H:Type) (enc:TypeId × Value→H) (F:Stop.Interp) :
 ReturnsInHanded {} Tryz.checked os 5 .any ((Rows.OpenSpec.upto Rows.writeTimeSpec).preRow enc Tryz.prog Tryz.f5 Rows.writeTimeUptoRow.domain false Rows.writeTimeUptoRow.laid) (((Rows.OpenSpec.upto Rows.writeTimeSpec).at F).post enc Tryz.prog Tryz.f5 false true false false):=by
 obtain ⟨places,hx⟩:=reads os enc
 have hok:Input.okWideB Tryz.checked.prog ((World.laidAll Tryz.prog os Rows.writeTimeUptoRow.laid).forCall (fun _ _=>0) ⟨#[],#[.string ⟨#[]⟩,.slice none 0 0],[]⟩) 5 ⟨#[],#[.string ⟨#[]⟩,.slice none 0 0],[]⟩=true:=by kernel_rfl
 refine returnsInHanded_of_row (C:=Tryz.checked) (s:=Rows.OpenSpec.upto Rows.writeTimeSpec) own started (by kernel_rfl) Tryz.func5
  ⟨World.laidAll Tryz.prog os Rows.writeTimeUptoRow.laid,fun _ _=>0,⟨#[],#[.string ⟨#[]⟩,.slice none 0 0],[]⟩,World.laidAll_os _ _ _,World.shaped_of_ZipB (by kernel_rfl) (by kernel_rfl),(Input.okWide_of_okWideB (base:=0) hok).1,(Input.okWide_of_okWideB hok).2,
   OpenSpec.preRow_of_cond 8 hx (by kernel_rfl) (fun k hk=>by cases hk;kernel_rfl) (by kernel_rfl) (by rw[MakeChecks.laidMetH_plain _ _ _ (by kernel_rfl)];exact laidMet_laidAll _ (by kernel_rfl) (by kernel_rfl)),by
    simp only[Assume.holds]
    exact ⟨by simp,by simp,by simp,by simp,by simp⟩⟩ ?_
 intro W base args ds gs before hval0 hW _ hcond _ hL hsh _
 have hk:=hcond _ rfl
 have hval:∀ (j:Nat) t v,Tryz.f5.params[j]?=some t→args[j]?=some v→Value.okWide Tryz.prog W .any base t v:=hval0
 have hW':=hW
 obtain ⟨p,q,hA0,hV,rfl,_,_⟩:=hW
 have hA:DataW.TrodAll enc Tryz.prog W 0 (fun _=>true) true Tryz.f5.params.toList args.toList ds p:=hA0
 rw[Tryz.params5]at hA hval
 obtain ⟨v0,v1,d0,d1,p0,p1,rfl,rfl,rfl,h0,h1⟩:=trodAll_two hA
 obtain ⟨rfl,rfl⟩:=trodVars_none hV
 have hbk:Rows.uptoBulkAll ([d0,d1] ++ [])≤1048576:=of_decide_eq_true hk
 simp only[List.append_nil,Rows.uptoBulkAll]at hbk
 have hk0:Rows.uptoBulk d0≤1048576:=by omega
 have hk1:Rows.uptoBulk d1≤1048576:=by omega
 clear hbk hk hcond
 obtain ⟨x0,rfl,rfl,rfl,wx0⟩:=open_string Tryz.underlying9 (hval 0 9 v0 rfl rfl) h0
 have g1:=h1
 simp only[List.append_nil]at hW'
 have hlt:∀ x∈p1,x.block<W.heap.size:=fun x hx=>by simpa using hW'.lt x (by simpa using hx)
 rw[MakeChecks.laidMetH_plain _ _ _ (by kernel_rfl)]at hL
 have hT:Tab W:=tab_of hL (by simp[Rows.writeTimeUptoRow]) hsh
 have hT7:T7 W:=t7_of_row hL (by simp[Rows.writeTimeUptoRow]) hsh
 obtain ⟨l0,rfl⟩:∃ l:List UInt8,x0=⟨l.toArray⟩:=⟨x0.data.toList,rfl⟩
 obtain ⟨xs,ax,lx,bx⟩:=pers_arg Tryz.underlying45 Tryz.underlying44 (by kernel_rfl) (by kernel_rfl) Tryz.underlying9 Tryz.underlying9 Tryz.underlying9 (hval 1 45 v1 rfl rfl) h1
 have hl0:l0.length≤1048576:=by
  have h:=hk0
  simp[Rows.uptoBulk]at h
  omega
 refine (law7_WriteTime W hT7 hT l0 v1 xs hl0 ax (by omega) (fun y hy=>by have:=bx y hy;omega)).mono fun e W' ⟨he,hb⟩=>?_
 subst he
 exact ⟨_,rfl,_,_,_,[],_,[],hW',trodAll_mk1 (shut_bool Tryz.underlying4 _),trodAll_mk2 (shut_string Tryz.underlying9 wx0) (Below.trod laidOut (by kernel_rfl) (of_decide_eq_true (by kernel_rfl)) g1 hb (fun x hx=>hlt x (by simp[hx]))),rfl,hb.frame _,fun h=>by cases h⟩
set_option maxHeartbeats 8000000 in
theorem holds:Rows.writeTimeUptoRow.holds Tryz.pinned (Rows.OpenSpec.upto Rows.writeTimeSpec):=
 OpenClaim.holds_of_cond 5 Tryz.f5 rfl rfl rfl rfl rfl rfl rfl ⟨rfl,rfl,rfl,rfl,rfl⟩ rfl rfl rfl rfl rfl (by as_aux_lemma=>kernel_rfl) Tryz.func5 closed
  (of_decide_eq_true (by as_aux_lemma=>kernel_rfl)) (by unfold Func.isWrapper;first|(rw[if_pos (by as_aux_lemma=>decide +kernel)];as_aux_lemma=>kernel_rfl)|(rw[if_neg (by as_aux_lemma=>decide +kernel)];exact ⟨rfl,rfl⟩))
  (fun os started H enc _ F=>by rw[OpenClaim.pre_eq_preRow];exact lifted os started H enc F)
set_option maxHeartbeats 8000000 in
theorem proved:Rows.WriteTimeUptoCardSaid:=
 Claim7.holds_tied_plain_at .later [] _ true _ true holds (fun _ h=>by cases h) (by as_aux_lemma=>kernel_rfl) (fun _ h=>by cases h) writeTimeUpto_row_tie rfl ⟨rfl,rfl⟩ (by as_aux_lemma=>kernel_rfl) rfl
  (fun f fn hf hfn=>by
   obtain rfl:f=5:=Option.some.inj ((show Tryz.prog.funcNamed "victualler/victuallerlaw7.WriteTime" = some 5 by kernel_rfl).symm.trans hf) |>.symm
   obtain rfl:fn=Tryz.f5:=(Option.some.inj (Tryz.func5.symm.trans hfn)).symm
   exact ⟨by kernel_rfl,fun j t ht=>by
    rw[Tryz.params5]at ht
    have hm:t∈[9,45]:=by simpa using Array.mem_of_getElem? ht
    have hall:([9,45].all fun u=>!Tryz.prog.wantsStandIn u)=true:=by kernel_rfl
    exact (show Tryz.prog.wantsStandIn t=false by simpa using List.all_eq_true.1 hall t hm)⟩)
  (by as_aux_lemma=>kernel_rfl)
#print axioms proved
end Go.Proofs.YtbdfhnelmojbpaaGreatDoor.writeTime
