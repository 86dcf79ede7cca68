/- What the machine for closed runs knows of this program is so; the memory that a run begins in. -/
import Derived.Test.YtbeageacgalhiaaGreatDoorAmKn
import Derived.ProofKit
import Derived.Lib.ItoaNum
import Derived.Lib.LaidTab
set_option linter.unusedVariables false
set_option linter.unusedSimpArgs false
namespace Go.Proofs.YtbeageacgalhiaaGreatDoor
open Go Am
noncomputable section

theorem names7 : Tryz.prog.funcs.toList.all (fun fn => !(fn.name == "runtime.NumGoroutine")) = true := by kernel_rfl
theorem mixed7 : Tryz.prog.follows .mixedOrders = true := by kernel_rfl
theorem no_ext {f : FuncId} (h : extK f = 1) : f = 260 := by
  unfold extK at h
  cases h1 : Nat.beq f 260 with
  | true => exact Nat.eq_of_beq_eq_true h1
  | false =>
    rw [h1, cond_false] at h
    cases h2 : Nat.beq f 226 with
    | true => rw [h2, cond_true] at h; cases h
    | false =>
      rw [h2, cond_false] at h
      cases h3 : Nat.beq f 262 with
      | true => rw [h3, cond_true] at h; cases h
      | false => rw [h3, cond_false] at h; cases h
theorem no_ext2 {f : FuncId} (h : extK f = 2) : f = 226 := by
  unfold extK at h
  cases h1 : Nat.beq f 260 with
  | true => rw [h1, cond_true] at h; cases h
  | false =>
    rw [h1, cond_false] at h
    cases h2 : Nat.beq f 226 with
    | true => exact Nat.eq_of_beq_eq_true h2
    | false =>
      rw [h2, cond_false] at h
      cases h3 : Nat.beq f 262 with
      | true => rw [h3, cond_true] at h; cases h
      | false => rw [h3, cond_false] at h; cases h
theorem no_ext3 {f : FuncId} (h : extK f = 3) : f = 262 := by
  unfold extK at h
  cases h1 : Nat.beq f 260 with
  | true => rw [h1, cond_true] at h; cases h
  | false =>
    rw [h1, cond_false] at h
    cases h2 : Nat.beq f 226 with
    | true => rw [h2, cond_true] at h; cases h
    | false =>
      rw [h2, cond_false] at h
      cases h3 : Nat.beq f 262 with
      | true => exact Nat.eq_of_beq_eq_true h3
      | false => rw [h3, cond_false] at h; cases h
theorem ext_run (e : Array Value → Sem Value) (args : Array Value) (w : World) : ((e args).run Tryz.prog w).andThen (fun v w' => .ok (.value v) w') = ((do pure (.value (← e args)) : Sem Next)).run Tryz.prog w := by
  rw [Sem.run_bind]; rfl
theorem known7 : KnownOk Tryz.prog K7 where
  enter := fun f h args w => by
    have h : hasBody f = true := h
    unfold hasBody at h
    split at h
    · rename_i fn hfn
      have hn := names7
      rw [List.all_eq_true] at hn
      have hm : fn ∈ Tryz.prog.funcs.toList := by
        rw [fnc, nth_eq] at hfn
        exact List.mem_of_getElem? hfn
      have hne := hn fn hm
      rw [fnc_eq] at hfn
      have h1 : fn.name ≠ "runtime.NumGoroutine" := by simpa using hne
      obtain ⟨c, hc⟩ := Option.isSome_iff_exists.1 h
      simp [callFunc, hfn, h1, hc]
    · cases h
  ext1 := fun f _ h args w => by
    obtain rfl := no_ext h
    rw [run_callFunc_extern Tryz.func260 (by kernel_rfl) (by kernel_rfl) (by kernel_rfl) (e := Extern.BytealgIndexByte.indexByte) (by kernel_rfl)]
    exact ext_run _ _ _
  ext2 := fun f _ h args w => by
    obtain rfl := no_ext2 h
    rw [run_callFunc_extern Tryz.func226 (by kernel_rfl) (by kernel_rfl) (by kernel_rfl) (e := Extern.AbiNoEscape.same) (by kernel_rfl)]
    exact ext_run _ _ _
  ext3 := fun f _ h => by
    obtain rfl := no_ext3 h
    refine ⟨Tryz.f262.params, Tryz.f262.resultTypes, by kernel_rfl, fun args w => ?_⟩
    rw [run_callFunc_extern Tryz.func262 (by kernel_rfl) (by kernel_rfl) (by kernel_rfl) (e := Extern.BytealgMakeNoZero.makeNoZero Tryz.f262.params Tryz.f262.resultTypes) (by kernel_rfl)]
    exact ext_run _ _ _
  con := fun f _ args S v h => by cases h
  mixed := mixed7
/-- where the package variables lie -/
def m7 : Map := fun id => if id < 16 then some ⟨id, 0, if id = 3 then 20 else 0⟩ else none
theorem gl7 : Gl K7 m7 := fun g hg => by
  have hg : g < 16 := hg
  exact ⟨_, by unfold m7; rw [if_pos hg]⟩
theorem fre7 (n : Nat) : Fre m7 16 n := fun id h1 h2 => by unfold m7; rw [if_neg (by omega)]
theorem pow7 (m : Map) : cvs m pow10L = some (Lib.pow10Tab.map fun z => Value.int .u64 z) := by
  have : Lib.pow10Tab = [1,10,100,1000,10000,100000,1000000,10000000,100000000,1000000000,10000000000,100000000000,1000000000000,10000000000000,100000000000000,1000000000000000,10000000000000000,100000000000000000,1000000000000000000,10000000000000000000] := by decide
  rw [this]; rfl
/-- what start-up code has laid: the table of powers of ten -/
def T7 (w : World) : Prop := ∃ fr, w.heap[3]? = some (.cells (Lib.pow10Tab.map fun z => Value.int .u64 z).toArray 356 fr)
theorem T7.keep {w w' : World} (h : T7 w) (hb : Go.RowKit.Below w.heap.size w w') : T7 w' := by
  obtain ⟨fr, h⟩ := h
  exact ⟨fr, (hb.block _ (Array.getElem?_eq_some_iff.1 h).1).trans h⟩
theorem r7 {w : World} (h : T7 w) : R S7.lk m7 w := by
  obtain ⟨fr, hw⟩ := h
  have hlk : ∀ id b, S7.lk id = some b → id = 3 ∧ b = .cells 356 pow10L 20 true := fun id b hb => by
    rcases T.get_put (Blk.cells 356 pow10L 20 true) (full Blk 7) 3 id hb with h1 | ⟨_, h1⟩
    · exact h1
    · rw [full_get] at h1; cases h1
  refine ⟨fun id b hb => ?_, fun id id' b b' L L' h1 h2 _ _ _ => by rw [(hlk _ _ h1).1, (hlk _ _ h2).1]⟩
  obtain ⟨rfl, rfl⟩ := hlk id b hb
  refine ⟨⟨3, 0, 20⟩, (Lib.pow10Tab.map fun z => Value.int .u64 z).toArray, fr, _, rfl, hw, by rw [List.size_toArray, List.length_map, Lib.pow10Tab_length]; exact Nat.le_refl 20, by decide, pow7 _, fun i v hv => by simpa using hv, fun i h1 h2 => ?_, fun _ => ⟨rfl, by rw [List.size_toArray, List.length_map, Lib.pow10Tab_length]; rfl⟩⟩
  exact absurd h2 (by show ¬ i < 20; omega)
end
end Go.Proofs.YtbeageacgalhiaaGreatDoor
