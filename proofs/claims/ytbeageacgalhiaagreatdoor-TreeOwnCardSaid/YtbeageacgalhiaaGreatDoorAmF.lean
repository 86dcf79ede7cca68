/- A machine for closed runs: slices of texts and slices, parts of structs. No program in sight. -/
import Derived.Test.YtbeageacgalhiaaGreatDoorAmE
set_option linter.unusedVariables false
set_option linter.unusedSimpArgs false
namespace Am
open Go
noncomputable section

abbrev Rho := Operand → Option AV
def RhoOk (m : Map) (ρ : Rho) (ev : Operand → Value) : Prop := ∀ x a, ρ x = some a → cvo m a = some (ev x)

def bd (ρ : Rho) (x : Operand) : Option Nat :=
  match ρ x with
  | some (.i _ (.ofNat n)) => some n
  | _ => none
def obd (ρ : Rho) : Option Operand → Option (Option Nat)
  | none => some none
  | some x => match bd ρ x with
    | some n => some (some n)
    | none => none
def OB (o : Option Value) (n : Option Nat) : Prop := (o = none ∧ n = none) ∨ ∃ (k : IntKind) (v : Nat), o = some (.int k (v : Int)) ∧ n = some v
theorem bd_ok {m : Map} {ρ : Rho} {ev : Operand → Value} (hρ : RhoOk m ρ ev) {x : Operand} {n : Nat} (h : bd ρ x = some n) : ∃ k, ev x = .int k (n : Int) := by
  unfold bd at h
  split at h
  · rename_i k n' hx
    have := hρ _ _ hx
    simp only [cvo, Option.some.injEq] at this
    obtain rfl := Option.some.inj h
    exact ⟨k, this.symm⟩
  · cases h
theorem obd_ok {m : Map} {ρ : Rho} {ev : Operand → Value} (hρ : RhoOk m ρ ev) {x : Option Operand} {n : Option Nat} (h : obd ρ x = some n) : OB (x.map ev) n := by
  unfold obd at h
  split at h
  · obtain rfl := Option.some.inj h; exact .inl ⟨rfl, rfl⟩
  · split at h
    · rename_i n' hn
      obtain rfl := Option.some.inj h
      obtain ⟨k, hk⟩ := bd_ok hρ hn
      exact .inr ⟨k, n', by simp [hk], rfl⟩
    · cases h
variable {P : Program}
theorem sliceBound_ok (k : IntKind) (n y : Nat) (c : BoundsCode) (w : World) (h : n ≤ y) : (Instr.sliceBound (.int k (n : Int)) y c).run P w = .ok n w := by
  unfold Instr.sliceBound
  simp [asIntOf, h]
theorem sliceBounds_ok (s : Bool) (len cap : Nat) {lo hi : Option Value} {l h : Option Nat} (hl : OB lo l) (hh : OB hi h) (w : World) (h1 : h.getD len ≤ cap) (h2 : l.getD 0 ≤ h.getD len) :
    (Instr.sliceBounds s len cap lo hi none).run P w = .ok (l.getD 0, h.getD len, cap) w := by
  unfold Instr.sliceBounds
  rcases hl with ⟨rfl, rfl⟩ | ⟨k, v, rfl, rfl⟩ <;> rcases hh with ⟨rfl, rfl⟩ | ⟨k', v', rfl, rfl⟩ <;> simp only [Option.getD_none, Option.getD_some] at h1 h2 ⊢
  · simp
  · simp [sliceBound_ok k' v' cap _ w h1]
  · simp [sliceBound_ok k v len _ w h2]
  · simp [sliceBound_ok k' v' cap _ w h1, sliceBound_ok k v v' _ w h2]
theorem sliceBounds3_ok (s : Bool) (len cap : Nat) {lo : Option Value} {l : Option Nat} (hl : OB lo l) (k1 k2 : IntKind) (h m : Nat) (w : World) (h1 : h ≤ m) (h2 : l.getD 0 ≤ h) (h3 : m ≤ cap) :
    (Instr.sliceBounds s len cap lo (some (.int k1 (h : Int))) (some (.int k2 (m : Int)))).run P w = .ok (l.getD 0, h, m) w := by
  unfold Instr.sliceBounds
  rcases hl with ⟨rfl, rfl⟩ | ⟨k, v, rfl, rfl⟩ <;> simp only [Option.getD_none, Option.getD_some] at h2 ⊢
  · simp [sliceBound_ok k2 m cap _ w h3, sliceBound_ok k1 h m _ w h1]
  · simp [sliceBound_ok k2 m cap _ w h3, sliceBound_ok k1 h m _ w h1, sliceBound_ok k v h _ w h2]

def aslc (id off len : Nat) (cap : Option Nat) (es pre : Nat) (lo hi : Option Nat) : Option Nat → Option AV
  | none => bif Nat.ble (hi.getD len) (cap.getD len) && Nat.ble (lo.getD 0) (hi.getD len) then
      some (.sl id (off + lo.getD 0 * es) (hi.getD len - lo.getD 0) (match cap with | some c => some (c - lo.getD 0) | none => none) es (bif Nat.beq (lo.getD 0) 0 then pre else lo.getD 0 * es)) else none
  | some m => match hi with
    | none => none
    | some h => bif Nat.ble m (cap.getD len) && (Nat.ble h m && (Nat.ble (lo.getD 0) h && !(Nat.beq m 0))) then
        some (.sl id (off + lo.getD 0 * es) (h - lo.getD 0) (some (m - lo.getD 0)) es (bif Nat.beq (lo.getD 0) 0 then pre else lo.getD 0 * es)) else none

theorem addr_add (b o n : Nat) : (Addr.add ⟨b, o, none⟩ n) = ⟨b, o + n, none⟩ := by
  unfold Addr.add
  split
  · rename_i h; subst h; rfl
  · rfl
/-- what a cut of a slice is -/
theorem aslc_val {m : Map} {id off len es pre : Nat} {cap : Option Nat} {L : Loc} (hL : m id = some L) (c : Nat) (hc : c = cap.getD ((L.e - off) / es)) (h1 : len ≤ c) (h0 : 0 < es) (h2 : off + c * es ≤ L.e)
    (l h : Nat) (cap' : Option Nat) (mm : Nat) (hmc : cap' = some (mm - l) ∧ (mm ≠ 0 ∧ mm ≤ c ∨ mm = c) ∨ (cap' = none ∧ cap = none ∧ mm = c)) (hl : l ≤ h) (hh : h ≤ mm) :
    cvo m (.sl id (off + l * es) (h - l) cap' es (bif Nat.beq l 0 then pre else l * es)) =
      some (.slice (if mm = l then some ⟨L.b, L.s + off - (if c = 0 then pre else 0), none⟩ else (some (⟨L.b, L.s + off - (if c = 0 then pre else 0), none⟩ : Addr)).map (·.add (l * es))) (h - l) (mm - l)) := by
  have hlc : l ≤ c := by rcases hmc with ⟨_, h | h⟩ | ⟨_, _, h⟩ <;> omega
  have hmmc : mm ≤ c := by rcases hmc with ⟨_, h | h⟩ | ⟨_, _, h⟩ <;> omega
  have hle : l * es ≤ c * es := Nat.mul_le_mul_right es hlc
  have hcap : cap'.getD ((L.e - (off + l * es)) / es) = mm - l := by
    rcases hmc with ⟨rfl, _⟩ | ⟨rfl, rfl, rfl⟩
    · rfl
    · simp only [Option.getD_none] at hc ⊢
      rw [hc, Nat.sub_add_eq, Nat.mul_comm l es, Nat.sub_mul_div_of_le]
      rw [Nat.mul_comm es l]; exact Nat.le_trans hle (by omega)
  have hmul : (mm - l) * es + l * es ≤ c * es := by
    rw [← Nat.add_mul]; exact Nat.mul_le_mul_right es (by omega)
  simp only [cvo, hL, Option.bind_some, hcap]
  rw [if_pos ⟨by omega, h0, by omega⟩]
  congr 1
  by_cases e : mm = l
  · subst e
    rw [if_pos rfl, Nat.sub_self, if_pos rfl]
    congr 3
    by_cases h00 : mm = 0
    · subst h00
      have hc0 : c = 0 := by rcases hmc with ⟨_, h | h⟩ | ⟨_, _, h⟩ <;> omega
      rw [hc0]; simp
    · have hc0 : c ≠ 0 := by omega
      have hb : Nat.beq mm 0 = false := by rw [Bool.eq_false_iff, Ne, Nat.beq_eq]; exact h00
      rw [hb, cond_false, if_neg hc0]; omega
  · have hc0 : c ≠ 0 := by omega
    rw [if_neg e, if_neg hc0, if_neg (by omega)]
    simp only [Option.map_some, addr_add, Nat.sub_zero]
    congr 3; omega
theorem aslc_ok {m : Map} {id off len es pre : Nat} {cap lo hi : Option Nat} {lv hv mv : Option Value} {mx : Option Nat} {r : AV} {t e : TypeId} {v : Value}
    (h : aslc id off len cap es pre lo hi mx = some r) (hv0 : cvo m (.sl id off len cap es pre) = some v) (hl : OB lv lo) (hh : OB hv hi) (hm : OB mv mx) (ht : und P t = some (.slice e)) (hs : szo P e = some es) :
    ∃ z, cvo m r = some z ∧ ∀ w, (Instr.sliceAt t v lv hv mv).run P w = .ok z w := by
  simp only [cvo, Option.bind_eq_some_iff, Option.ite_none_right_eq_some, Option.some.injEq] at hv0
  obtain ⟨L, hL, ⟨g1, g2, g3⟩, rfl⟩ := hv0
  obtain ⟨c, hc⟩ : ∃ c, c = cap.getD ((L.e - off) / es) := ⟨_, rfl⟩
  rw [← hc] at g1 g3 ⊢
  have hcl : cap.getD len ≤ c := by
    cases cap with
    | none => exact g1
    | some x => simp at hc; simp [hc]
  have run : ∀ (lo' hi' mm : Nat) (w : World), (Instr.sliceBounds true len c lv hv mv).run P w = .ok (lo', hi', mm) w →
      (Instr.sliceAt t (.slice (some ⟨L.b, L.s + off - (if c = 0 then pre else 0), none⟩) len c) lv hv mv).run P w =
        .ok (.slice (if mm = lo' then some ⟨L.b, L.s + off - (if c = 0 then pre else 0), none⟩ else (some (⟨L.b, L.s + off - (if c = 0 then pre else 0), none⟩ : Addr)).map (·.add (lo' * es))) (hi' - lo') (mm - lo')) w := by
    intro lo' hi' mm w hr
    simp [Instr.sliceAt, run_und ht, Instr.slice, hr, run_szo hs]
  unfold aslc at h
  split at h
  · cases hb : (Nat.ble (hi.getD len) (cap.getD len) && Nat.ble (lo.getD 0) (hi.getD len)) with
    | false => rw [hb] at h; cases h
    | true =>
      rw [hb, cond_true] at h
      rw [Bool.and_eq_true, Nat.ble_eq, Nat.ble_eq] at hb
      obtain rfl := Option.some.inj h
      have hm' : mv = none := by rcases hm with ⟨h, _⟩ | ⟨_, _, _, h⟩; exact h; cases h
      subst hm'
      refine ⟨_, aslc_val hL c hc g1 g2 g3 (lo.getD 0) (hi.getD len) _ c ?_ hb.2 (by omega), fun w => ?_⟩
      · cases cap with
        | none => exact .inr ⟨rfl, rfl, rfl⟩
        | some x => exact .inl ⟨by simp at hc; simp [hc], .inr rfl⟩
      · exact run _ _ _ w (sliceBounds_ok true len c hl hh w (by omega) hb.2)
  · rename_i mm
    split at h
    · cases h
    · rename_i hh'
      cases hb : (Nat.ble mm (cap.getD len) && (Nat.ble hh' mm && (Nat.ble (lo.getD 0) hh' && !(Nat.beq mm 0)))) with
      | false => rw [hb] at h; cases h
      | true =>
        rw [hb, cond_true] at h
        rw [Bool.and_eq_true, Bool.and_eq_true, Bool.and_eq_true, Nat.ble_eq, Nat.ble_eq, Nat.ble_eq, Bool.not_eq_true', ← Bool.not_eq_true, Nat.beq_eq] at hb
        obtain rfl := Option.some.inj h
        have hm' : ∃ k, mv = some (.int k (mm : Int)) := by
          rcases hm with ⟨_, h⟩ | ⟨k, v, h, h'⟩
          · cases h
          · obtain rfl := Option.some.inj h'; exact ⟨k, h⟩
        have hh'' : ∃ k, hv = some (.int k (hh' : Int)) := by
          rcases hh with ⟨_, h⟩ | ⟨k, v, h, h'⟩
          · cases h
          · obtain rfl := Option.some.inj h'; exact ⟨k, h⟩
        obtain ⟨k2, rfl⟩ := hm'
        obtain ⟨k1, rfl⟩ := hh''
        refine ⟨_, aslc_val hL c hc g1 g2 g3 (lo.getD 0) hh' _ mm (.inl ⟨rfl, .inl ⟨hb.2.2.2, by omega⟩⟩) hb.2.2.1 hb.2.1, fun w => ?_⟩
        exact run _ _ _ w (sliceBounds3_ok true len c hl k1 k2 hh' mm w hb.2.1 hb.2.2.1 (by omega))
end
end Am
