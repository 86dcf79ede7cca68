/- FilesNone returns true, and all that was there is as it was. -/
import Derived.Test.YtainikhnddgcfaaGreatDoorFnB
import Derived.Test.YtainikhnddgcfaaGreatDoorAmPf
set_option linter.unusedVariables false
set_option linter.unusedSimpArgs false
namespace Go.Proofs.YtainikhnddgcfaaGreatDoor
open Go Am Go.RowKit

/-- the table is among what is known -/
theorem t7_of {S : St} {m : Map} {w : World} (hR : R S.lk m w) (hG : Gl K7 m) (hS : S.lk 1 = some (.cells 346 pow10L 20 true)) : T7 w := by
  obtain ⟨L, c, fr, vs, h1, h2, h3, h4, h5, h6, h7, h8⟩ := hR.holds _ _ hS
  obtain ⟨e, he⟩ := hG 1 (by decide)
  rw [he] at h1
  obtain rfl := Option.some.inj h1
  obtain ⟨_, h9⟩ := h8 rfl
  have hl : pow10L.length = 20 := rfl
  rw [hl] at h9
  rw [pow7] at h5
  obtain rfl := Option.some.inj h5
  refine ⟨fr, ?_⟩
  have hc : c = (Lib.pow10Tab.map fun z => Value.int .u64 z).toArray := by
    apply Array.ext
    · rw [h9, List.size_toArray, List.length_map, Lib.pow10Tab_length]
    · intro i i1 i2
      have h10 := h6 i _ (List.getElem?_eq_getElem (by simpa using i2))
      rw [Nat.zero_add, Array.getElem?_eq_getElem i1] at h10
      simpa using Option.some.inj h10
  rw [hc] at h2; exact h2
theorem cutFn : (litS bf9 nf9).lk 1 = some (.cells 346 pow10L 20 true) := by kernel_rfl
theorem shapeFn : lastFn = .seq (.region (hdId lastFn) opsFn false) .ret := by kernel_rfl
noncomputable def opFn : Oper := opsFn.toList.head?.getD ⟨none, .ready 0, 0, "", #[], none⟩
theorem headFn1 : opsFn.toList = opFn :: restFn := by kernel_rfl
theorem headFn2 : opFn.guard = none := by kernel_rfl
theorem headFn3 : opFn.op = .call ⟨.value (.func 12), #[], #[]⟩ := by kernel_rfl
theorem headFn4 : opFn.dst = some dFn := by kernel_rfl
theorem dFn_lt : dFn < nt7 3 := of_decide_eq_true (by kernel_rfl)
theorem fnFn_body : Tryz.f3.body = some (body7 3) := by kernel_rfl
theorem fnFn_nt : Tryz.f3.ntmps = nt7 3 := by kernel_rfl
theorem fnFn_res : Tryz.f3.results.toList = [.tmp 0] := by kernel_rfl
theorem enter7 : K7.enter 12 = true := by kernel_rfl
theorem filesNone {w : World} (h : T7 w) : Calls Tryz.prog 3 #[] w fun e w' => e = .returned (.bool true) ∧ Below w.heap.size w w' := by
  have hreach := part_ok (fuel := 200) known7 runfn
  have hstep : StepR Tryz.prog K7 (nt7 3) opsFn.toList opFn (litE ef9) (litS bf9 nf9) (eput (litE ef9) dFn (.b true)) (litS bf9 nf9) :=
    call_stepR known7 (u := .bool true) headFn2 headFn3 headFn4 dFn_lt enter7 (fun m w hR hG => begun7 (t7_of hR hG cutFn)) (fun m => rfl)
  obtain ⟨n', t', S', o1, e1, S2, h5, h6⟩ := sound_region_first (fuel := 200) (id := hdId lastFn) known7 headFn1 hstep runfn2
  have hl : SoundAt Tryz.prog K7 lastFn (nt7 3) (litE ef9) (litS bf9 nf9) .ret ⟨n', t'⟩ S' := by
    rw [shapeFn]; exact sound_seq h6 sound_ret
  have hs := hreach _ _ _ hl
  rw [← fnFn_nt] at hs
  exact calls_closed (v := .b true) Tryz.func3 fnFn_body fnFn_res hs (.inr rfl) (chkR_out h5) (fun m => rfl) (r7 h) (fre7 _) gl7 hold7
end Go.Proofs.YtainikhnddgcfaaGreatDoor
