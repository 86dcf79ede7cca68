/- SplitBad: its switch. -/
import Derived.Test.YtbeageacgalhiaaGreatDoorSbA
import Derived.ProofKit
set_option linter.unusedVariables false
set_option linter.unusedSimpArgs false
set_option maxRecDepth 100000
namespace Go.Proofs.YtbeageacgalhiaaGreatDoor
open Go Am Go.RowKit
noncomputable section
theorem smallsb0 (v : Int) : outV (runE (fun n t S => unB (cops Tryz.prog K8 (nt7 3) opsb.toList [osb 2, osb 3]) fun q => q h8 (chkX (esbT 1) bsb nsb) n t S) (eput (env1sb v) 35 (.i .i64 (.negSucc 4))) (litS bsb nsb)) [] = some [] := by kernel_rfl
theorem smallsb1 (v : Int) : outV (runE (fun n t S => unB (cops Tryz.prog K8 (nt7 3) opsb.toList [osb 2, osb 3]) fun q => q h8 (chkX (esbT 2) bsb nsb) n t S) (eput (env1sb v) 35 (.i .i64 (.negSucc 3))) (litS bsb nsb)) [] = some [] := by kernel_rfl
theorem smallsb2 (v : Int) : outV (runE (fun n t S => unB (cops Tryz.prog K8 (nt7 3) opsb.toList [osb 2, osb 3]) fun q => q h8 (chkX (esbT 3) bsb nsb) n t S) (eput (env1sb v) 35 (.i .i64 (.negSucc 2))) (litS bsb nsb)) [] = some [] := by kernel_rfl
theorem smallsb3 (v : Int) : outV (runE (fun n t S => unB (cops Tryz.prog K8 (nt7 3) opsb.toList [osb 2, osb 3]) fun q => q h8 (chkX (esbT 4) bsb nsb) n t S) (eput (env1sb v) 35 (.i .i64 (.negSucc 1))) (litS bsb nsb)) [] = some [] := by kernel_rfl
theorem smallsb4 (v : Int) : outV (runE (fun n t S => unB (cops Tryz.prog K8 (nt7 3) opsb.toList [osb 2, osb 3]) fun q => q h8 (chkX (esbT 5) bsb nsb) n t S) (eput (env1sb v) 35 (.i .i64 (.negSucc 0))) (litS bsb nsb)) [] = some [] := by kernel_rfl
theorem smallsb5 (v : Int) : outV (runE (fun n t S => unB (cops Tryz.prog K8 (nt7 3) opsb.toList [osb 2, osb 3]) fun q => q h8 (chkX (esbT 0) bsb nsb) n t S) (eput (env1sb v) 35 (.i .i64 (.ofNat 0))) (litS bsb nsb)) [] = some [] := by kernel_rfl
theorem smallsb6 (v : Int) : outV (runE (fun n t S => unB (cops Tryz.prog K8 (nt7 3) opsb.toList [osb 2, osb 3]) fun q => q h8 (chkX (esbT 1) bsb nsb) n t S) (eput (env1sb v) 35 (.i .i64 (.ofNat 1))) (litS bsb nsb)) [] = some [] := by kernel_rfl
theorem smallsb7 (v : Int) : outV (runE (fun n t S => unB (cops Tryz.prog K8 (nt7 3) opsb.toList [osb 2, osb 3]) fun q => q h8 (chkX (esbT 2) bsb nsb) n t S) (eput (env1sb v) 35 (.i .i64 (.ofNat 2))) (litS bsb nsb)) [] = some [] := by kernel_rfl
theorem smallsb8 (v : Int) : outV (runE (fun n t S => unB (cops Tryz.prog K8 (nt7 3) opsb.toList [osb 2, osb 3]) fun q => q h8 (chkX (esbT 3) bsb nsb) n t S) (eput (env1sb v) 35 (.i .i64 (.ofNat 3))) (litS bsb nsb)) [] = some [] := by kernel_rfl
theorem smallsb9 (v : Int) : outV (runE (fun n t S => unB (cops Tryz.prog K8 (nt7 3) opsb.toList [osb 2, osb 3]) fun q => q h8 (chkX (esbT 4) bsb nsb) n t S) (eput (env1sb v) 35 (.i .i64 (.ofNat 4))) (litS bsb nsb)) [] = some [] := by kernel_rfl
theorem smallsb10 (v : Int) : outV (runE (fun n t S => unB (cops Tryz.prog K8 (nt7 3) opsb.toList [osb 2, osb 3]) fun q => q h8 (chkX (esbT 5) bsb nsb) n t S) (eput (env1sb v) 35 (.i .i64 (.ofNat 5))) (litS bsb nsb)) [] = some [] := by kernel_rfl

theorem step0sb (v : Int) : aop0 Tryz.prog K8 noIh (litS bsb nsb) (evo K8 (env0sb v)) (osb 0).op = .ok (vsb v) (litS bsb nsb) := by kernel_rfl
theorem see1sb (v : Int) : eget (env1sb v) 34 = some (vsb v) := by kernel_rfl
theorem step1sb (v : Int) : aop0 Tryz.prog K8 noIh (litS bsb nsb) (see 34 (.i .i64 v) (evo K8 (env1sb v))) (osb 1).op = .ok (.i .i64 (v.tmod 6)) (litS bsb nsb) := by kernel_rfl
theorem g0sb : (osb 0).guard = none := by kernel_rfl
theorem d0sb : (osb 0).dst = some 34 := by kernel_rfl
theorem g1sb : (osb 1).guard = none := by kernel_rfl
theorem d1sb : (osb 1).dst = some 35 := by kernel_rfl
theorem n0sb : 34 < nt7 3 := of_decide_eq_true (by kernel_rfl)
theorem n1sb : 35 < nt7 3 := of_decide_eq_true (by kernel_rfl)
theorem tagsb (v : Int) : ∃ c, c < 6 ∧ RegR Tryz.prog K8 (nt7 3) opsb opsb.toList (env0sb v) (litS bsb nsb) (litE (esbT c)) (litS bsb nsb) := by
  have key : ∀ (r : Int) (c : Nat), v.tmod 6 = r → RegR Tryz.prog K8 (nt7 3) opsb [osb 2, osb 3] (eput (env1sb v) 35 (.i .i64 r)) (litS bsb nsb) (litE (esbT c)) (litS bsb nsb) → RegR Tryz.prog K8 (nt7 3) opsb opsb.toList (env0sb v) (litS bsb nsb) (litE (esbT c)) (litS bsb nsb) := by
    intro r c hr h
    rw [listsb]
    refine reg_cons (step_handB known8 g0sb d0sb n0sb (step0sb v)) (reg_cons (step_see known8 g1sb d1sb n1sb (see1sb v) (fun m u h => cvo_v_int h) (step1sb v)) ?_)
    rw [hr]; exact h
  have hb : -6 < v.tmod 6 ∧ v.tmod 6 < 6 := by
    have h1 := Int.tmod_lt_of_pos v (by decide : (0 : Int) < 6)
    have h2 := Int.lt_tmod_of_pos v (by decide : (0 : Int) < 6)
    exact ⟨h2, h1⟩
  have hc : v.tmod 6 = -5 ∨ v.tmod 6 = -4 ∨ v.tmod 6 = -3 ∨ v.tmod 6 = -2 ∨ v.tmod 6 = -1 ∨ v.tmod 6 = 0 ∨ v.tmod 6 = 1 ∨ v.tmod 6 = 2 ∨ v.tmod 6 = 3 ∨ v.tmod 6 = 4 ∨ v.tmod 6 = 5 := by omega
  rcases hc with h | h | h | h | h | h | h | h | h | h | h
  · exact ⟨1, by decide, key _ 1 h (reg_restL (fuel := 200) (lx := []) known8 (smallsb0 v))⟩
  · exact ⟨2, by decide, key _ 2 h (reg_restL (fuel := 200) (lx := []) known8 (smallsb1 v))⟩
  · exact ⟨3, by decide, key _ 3 h (reg_restL (fuel := 200) (lx := []) known8 (smallsb2 v))⟩
  · exact ⟨4, by decide, key _ 4 h (reg_restL (fuel := 200) (lx := []) known8 (smallsb3 v))⟩
  · exact ⟨5, by decide, key _ 5 h (reg_restL (fuel := 200) (lx := []) known8 (smallsb4 v))⟩
  · exact ⟨0, by decide, key _ 0 h (reg_restL (fuel := 200) (lx := []) known8 (smallsb5 v))⟩
  · exact ⟨1, by decide, key _ 1 h (reg_restL (fuel := 200) (lx := []) known8 (smallsb6 v))⟩
  · exact ⟨2, by decide, key _ 2 h (reg_restL (fuel := 200) (lx := []) known8 (smallsb7 v))⟩
  · exact ⟨3, by decide, key _ 3 h (reg_restL (fuel := 200) (lx := []) known8 (smallsb8 v))⟩
  · exact ⟨4, by decide, key _ 4 h (reg_restL (fuel := 200) (lx := []) known8 (smallsb9 v))⟩
  · exact ⟨5, by decide, key _ 5 h (reg_restL (fuel := 200) (lx := []) known8 (smallsb10 v))⟩
end
end Go.Proofs.YtbeageacgalhiaaGreatDoor
