/- What the machine for closed runs knows, begun7 too. -/
import Derived.Test.YtbeageacgalhiaaGreatDoorAmPf
set_option linter.unusedVariables false
set_option linter.unusedSimpArgs false
namespace Go.Proofs.YtbeageacgalhiaaGreatDoor
open Go Am Go.RowKit
noncomputable section

/-- the table is among what is known -/
theorem t7_of {K : Known} (hK : K.g = 16) {S : St} {m : Map} {w : World} (hR : R S.lk m w) (hG : Gl K m) (hS : S.lk 3 = some (.cells 356 pow10L 20 true)) : T7 w := by
  obtain ⟨L, c, fr, vs, h1, h2, h3, h4, h5, h6, h7, h8⟩ := hR.holds _ _ hS
  obtain ⟨e, he⟩ := hG 3 (by rw [hK]; decide)
  rw [he] at h1
  obtain rfl := Option.some.inj h1
  obtain ⟨_, h9⟩ := h8 rfl
  have hl : pow10L.length = 20 := rfl
  rw [hl] at h9
  rw [pow7] at h5
  obtain rfl := Option.some.inj h5
  refine ⟨fr, ?_⟩
  have hc : c = (Lib.pow10Tab.map fun z => Value.int .u64 z).toArray := by
    apply Array.ext
    · rw [h9, List.size_toArray, List.length_map, Lib.pow10Tab_length]
    · intro i i1 i2
      have h10 := h6 i _ (List.getElem?_eq_getElem (by simpa using i2))
      rw [Nat.zero_add, Array.getElem?_eq_getElem i1] at h10
      simpa using Option.some.inj h10
  rw [hc] at h2; exact h2
def con8 (k : Nat) (xs : List AV) (S : St) : Option AV :=
  bif Nat.beq k 4 then (match xs, S.h.get 3 with
    | [], some b => bif eqB (.cells 356 pow10L 20 true) b then some (.b true) else none
    | _, _ => none) else none
def ext8 (f : FuncId) : Nat := bif Nat.beq f 5 then 4 else extK f
def K8 : Known := { g := 16, enter := fun f => hasBody f && !(Nat.beq f 5), ext := ext8, mz := 128, con := con8 }
def h8 : H := hN Tryz.prog K8 (adraw Tryz.prog K8) 200
theorem ext8_of {f : FuncId} {k : Nat} (hk : k ≠ 4) (h : ext8 f = k) : extK f = k := by
  unfold ext8 at h
  cases hb : Nat.beq f 5 with
  | true => rw [hb, cond_true] at h; exact absurd h.symm hk
  | false => rw [hb, cond_false] at h; exact h
theorem extK_lt (f : FuncId) : extK f ≠ 4 := by
  unfold extK
  cases Nat.beq f 260 <;> cases Nat.beq f 226 <;> cases Nat.beq f 262 <;> decide
theorem has_of {f : FuncId} (h : extK f ≠ 0) : hasBody f = false := by
  unfold extK at h
  cases h1 : Nat.beq f 260 with
  | true => rw [Nat.beq_eq] at h1; subst h1; kernel_rfl
  | false => cases h2 : Nat.beq f 226 with
    | true => rw [Nat.beq_eq] at h2; subst h2; kernel_rfl
    | false => cases h3 : Nat.beq f 262 with
      | true => rw [Nat.beq_eq] at h3; subst h3; kernel_rfl
      | false => rw [h1, h2, h3] at h; exact absurd rfl h
theorem has_begun : hasBody 5 = true := by kernel_rfl
theorem known8 : KnownOk Tryz.prog K8 where
  enter := fun f h => by
    have h : (hasBody f && !(Nat.beq f 5)) = true := h
    rw [Bool.and_eq_true] at h
    exact known7.enter f h.1
  ext1 := fun f _ h => by
    have h1 := ext8_of (by decide) h
    exact known7.ext1 f (has_of (by rw [h1]; decide)) h1
  ext2 := fun f _ h => by
    have h1 := ext8_of (by decide) h
    exact known7.ext2 f (has_of (by rw [h1]; decide)) h1
  ext3 := fun f _ h => by
    have h1 := ext8_of (by decide) h
    exact known7.ext3 f (has_of (by rw [h1]; decide)) h1
  con := fun f _ args S v h => by
    have hc : con8 (ext8 f) args S = some v := h
    clear h
    unfold con8 at hc
    cases hk : Nat.beq (ext8 f) 4 with
    | false => rw [hk, cond_false] at hc; cases hc
    | true =>
      rw [hk, cond_true] at hc
      rw [Nat.beq_eq] at hk
      have hf : f = 5 := by
        unfold ext8 at hk
        cases hb : Nat.beq f 5 with
        | true => rw [Nat.beq_eq] at hb; exact hb
        | false => rw [hb, cond_false] at hk; exact absurd hk (extK_lt f)
      subst hf
      split at hc
      · rename_i b hS
        cases hb : eqB (.cells 356 pow10L 20 true) b with
        | false => rw [hb, cond_false] at hc; cases hc
        | true =>
          rw [hb, cond_true] at hc
          obtain rfl := Option.some.inj hc
          have hb := eqB_ok hb
          refine ⟨known7.enter _ has_begun, fun m w vs hR hG ha => ⟨.bool true, rfl, ?_⟩⟩
          have : vs = [] := by simpa [cvs] using ha.symm
          subst this
          exact begun7 (t7_of (K := K8) rfl hR hG (by show S.h.get _ = _; rw [hS, hb]))
      · cases hc
  mixed := mixed7
theorem gl8 : Gl K8 m7 := fun g hg => gl7 g hg
theorem hold8 : ∀ id b, S7.lk id = some b → id < K8.g := hold7
end
end Go.Proofs.YtbeageacgalhiaaGreatDoor
