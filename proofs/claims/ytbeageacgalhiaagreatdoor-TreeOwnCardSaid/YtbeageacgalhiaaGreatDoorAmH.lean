/- A machine for closed runs: all operations that ask no memory. No program in sight. -/
import Derived.Test.YtbeageacgalhiaaGreatDoorAmG
set_option linter.unusedVariables false
set_option linter.unusedSimpArgs false
namespace Am
open Go
noncomputable section
variable {P : Program}

def acv (P : Program) (s d : TypeId) (a : AV) : Option AV :=
  match und P s, und P d, a with
  | some _, some (.int k), .i _ n => some (.i k (iwrap k n))
  | some _, some .string, .s n x => some (.s n x)
  | _, _, _ => none
def afda (P : Program) (s : TypeId) (a : AV) (f : Nat) : Option AV :=
  match und P s, a with
  | some (.struct fs), .p id off => match nth fs.toList f with
    | some fd => match szo P fd.type with
      | some n => bif Nat.beq n 0 then none else some (.p id (off + fd.offset))
      | none => none
    | none => none
  | _, _ => none
def afld (P : Program) (t : TypeId) (a : AV) (f : Nat) : Option AV :=
  match und P t, a with
  | some (.struct fs), .ag l => match nth fs.toList f with
    | some fd => prt P fd.type l fd.offset
    | none => none
  | _, _ => none
def aixa (P : Program) (t : TypeId) (a : AV) (i : Nat) : Option AV :=
  match und P t, a with
  | some (.array n e), .p id off => match szo P e with
    | some s => bif Nat.blt i n then some (.p id (off + i * s)) else none
    | none => none
  | some (.slice e), .sl id off n _ es _ => match szo P e with
    | some s => bif Nat.beq s es && Nat.blt i n then some (.p id (off + i * es)) else none
    | none => none
  | _, _ => none
def aidx (P : Program) (t : TypeId) (a : AV) (i : Nat) : Option AV :=
  match und P t, a with
  | some (.array n e), .ag l => match szo P e with
    | some s => bif Nat.blt i n then prt P e l (i * s) else none
    | none => none
  | some .string, .s n x => bif Nat.blt i n then some (.i .u8 (.ofNat (Nat.mod (Nat.shiftRight x (8 * i)) 256))) else none
  | _, _ => none
def asli (P : Program) (ρ : Rho) (t : TypeId) (a : AV) (lo hi mx : Option Operand) : Option AV :=
  match und P t, a with
  | some .string, .s n x => match obd ρ lo, obd ρ hi, mx with
    | some l, some h, none => bif Nat.ble (h.getD n) n && Nat.ble (l.getD 0) (h.getD n) then
        some (.s (h.getD n - l.getD 0) (Nat.mod (Nat.shiftRight x (8 * l.getD 0)) (2 ^ (8 * (h.getD n - l.getD 0))))) else none
    | _, _, _ => none
  | some (.slice e), .sl id off n cap es pre => match obd ρ lo, obd ρ hi, obd ρ mx, szo P e with
    | some l, some h, some m, some s => bif Nat.beq s es then aslc id off n cap es pre l h m else none
    | _, _, _, _ => none
  | some (.slice e), .nsl => match obd ρ lo, obd ρ hi, mx, szo P e with
    | some l, some h, none, some _ => bif Nat.beq (l.getD 0) 0 && Nat.beq (h.getD 0) 0 then some .nsl else none
    | _, _, _, _ => none
  | _, _ => none
def alen (P : Program) (t : TypeId) (a : AV) : Option AV :=
  match und P t, a with
  | some .string, .s n _ => some (.i .i64 (.ofNat n))
  | some (.slice _), .sl _ _ n _ _ _ => some (.i .i64 (.ofNat n))
  | some (.slice _), .nsl => some (.i .i64 (.ofNat 0))
  | some (.array n _), _ => some (.i .i64 (.ofNat n))
  | _, _ => none
def acap (P : Program) (t : TypeId) (a : AV) : Option AV :=
  match und P t, a with
  | some (.slice _), .sl _ _ _ (some c) _ _ => some (.i .i64 (.ofNat c))
  | some (.slice _), .nsl => some (.i .i64 (.ofNat 0))
  | _, _ => none
def asld : AV → Option AV
  | .nsl => some .np
  | .sl id off n _ _ _ => bif Nat.beq n 0 then none else some (.p id off)
  | _ => none
def abul (P : Program) (b : Builtin) (ts : List TypeId) (as : List AV) : Option AV :=
  match b, ts, as with
  | .len, t :: _, a :: _ => alen P t a
  | .cap, t :: _, a :: _ => acap P t a
  | .max, _, a :: r => amm true r a
  | .min, _, a :: r => amm false r a
  | .unsafeSliceData, _, [a] => asld a
  | _, _, _ => none
def apure (P : Program) (ρ : Rho) : Op → Option AV
  | .move x => ρ x
  | .assign x => ρ x
  | .pick c a b => match ρ c with
    | some (.b x) => bif x then ρ a else ρ b
    | _ => none
  | .nilCheck x => match ρ x with
    | some (.p id off) => some (.p id off)
    | some (.fn (.func f) a c) => some (.fn (.func f) a c)
    | some (.ifc t v) => some (.ifc t v)
    | _ => none
  | .binOp op t x y _ => match ρ x, ρ y with
    | some a, some b => abin P op t x y a b
    | _, _ => none
  | .unOp op _ x => match op, ρ x with
    | .not, some (.b x) => some (.b (!x))
    | .neg, some (.i k n) => some (.i k (iwrap k (0 - n)))
    | .xor, some (.i k n) => some (.i k (k.wrap ((BitVec.ofInt k.bits (if k.signed then -1 else k.max)) ^^^ (BitVec.ofInt k.bits n)).toNat))
    | _, _ => none
  | .convert s d x => match ρ x with
    | some a => acv P s d a
    | none => none
  | .makeInterface t x => match und P t, ρ x with
    | some d, some a => match d with
      | .interface _ => none
      | _ => some (.ifc t a)
    | _, _ => none
  | .makeFunc f a c => match amap ρ a.toList, amap ρ c.toList with
    | some a, some c => some (.fn f a c)
    | _, _ => none
  | .fieldAddr s x f => match ρ x with
    | some a => afda P s a f
    | none => none
  | .field t x f => match ρ x with
    | some a => afld P t a f
    | none => none
  | .indexAddr t x ix => match ρ x, bd ρ ix with
    | some a, some i => aixa P t a i
    | _, _ => none
  | .index t x ix => match ρ x, bd ρ ix with
    | some a, some i => aidx P t a i
    | _, _ => none
  | .slice t x lo hi mx => match ρ x with
    | some a => asli P ρ t a lo hi mx
    | none => none
  | .extract x i => match ρ x with
    | some (.tp l) => nth l i
    | _ => none
  | .build t ps => match aprt ρ ps.toList with
    | some l => abuild P t l
    | none => none
  | .call c => match c.callee with
    | .builtin b => match amap ρ c.args.toList with
      | some as => abul P b c.argTypes.toList as
      | none => none
    | _ => none
  | _ => none

theorem acv_ok {m : Map} {s d : TypeId} {a r : AV} {v : Value} (h : acv P s d a = some r) (ha : cvo m a = some v) : ∃ z, cvo m r = some z ∧ ∀ w, (convert s d v).run P w = .ok z w := by
  unfold acv at h
  split at h
  · rename_i k _ n hs hd
    obtain rfl := Option.some.inj h
    simp only [cvo, Option.some.injEq] at ha; subst ha
    refine ⟨_, rfl, fun w => ?_⟩
    simp [convert, run_und hs, run_und hd, Conv.intToInt, iwrap_eq]
  · rename_i n x hs hd
    obtain rfl := Option.some.inj h
    refine ⟨v, ha, fun w => ?_⟩
    simp only [cvo, Option.ite_none_right_eq_some, Option.some.injEq] at ha
    obtain ⟨_, rfl⟩ := ha
    simp only [convert, Sem.run_bind, run_und hs, run_und hd, Result.andThen_ok]
    rfl
  · cases h
theorem afda_ok {m : Map} {s : TypeId} {a r : AV} {f : Nat} {v : Value} (h : afda P s a f = some r) (ha : cvo m a = some v) : ∃ z, cvo m r = some z ∧ ∀ w, (Instr.fieldAt s v f).run P w = .ok z w := by
  unfold afda at h
  split at h
  · rename_i fs id off hs
    split at h
    · rename_i fd hf
      split at h
      · rename_i n hn
        cases hb : Nat.beq n 0 with
        | true => rw [hb] at h; cases h
        | false =>
          rw [hb, cond_false] at h
          obtain rfl := Option.some.inj h
          have hn0 : n ≠ 0 := by rw [Bool.eq_false_iff, Ne, Nat.beq_eq] at hb; exact hb
          simp only [cvo, Option.map_eq_some_iff] at ha
          obtain ⟨L, hL, rfl⟩ := ha
          rw [nth_eq, Array.getElem?_toList] at hf
          refine ⟨.pointer (some ⟨L.b, L.s + (off + fd.offset), none⟩), by simp [cvo, hL], fun w => ?_⟩
          simp [Instr.fieldAt, run_und hs, hf, Instr.sureAddr, fieldPlace, run_szo hn, hn0, addr_add, Nat.add_assoc]
      · cases h
    · cases h
  · cases h
theorem afld_ok {m : Map} {t : TypeId} {a r : AV} {f : Nat} {v : Value} (h : afld P t a f = some r) (ha : cvo m a = some v) : ∃ z, cvo m r = some z ∧ ∀ w, (Instr.field t v f).run P w = .ok z w := by
  unfold afld at h
  split at h
  · rename_i fs l hs
    split at h
    · rename_i fd hf
      simp only [cvo, Option.map_eq_some_iff] at ha
      obtain ⟨vs, hl, rfl⟩ := ha
      rw [nth_eq, Array.getElem?_toList] at hf
      obtain ⟨z, h1, h2⟩ := prt_ok h hl
      refine ⟨z, h1, fun w => ?_⟩
      simp [Instr.field, run_und hs, hf, asAgg, h2]
    · cases h
  · cases h
theorem aixa_ok {m : Map} {t : TypeId} {a r : AV} {i : Nat} {v : Value} (h : aixa P t a i = some r) (ha : cvo m a = some v) (k : IntKind) : ∃ z, cvo m r = some z ∧ ∀ w, (Instr.indexAt t v (.int k (i : Int))).run P w = .ok z w := by
  unfold aixa at h
  split at h
  · rename_i n e id off ht
    split at h
    · rename_i s hs
      cases hb : Nat.blt i n with
      | false => rw [hb] at h; cases h
      | true =>
        rw [hb, cond_true] at h
        obtain rfl := Option.some.inj h
        rw [blt_iff] at hb
        simp only [cvo, Option.map_eq_some_iff] at ha
        obtain ⟨L, hL, rfl⟩ := ha
        refine ⟨.pointer (some ⟨L.b, L.s + (off + i * s), none⟩), by simp [cvo, hL], fun w => ?_⟩
        simp [Instr.indexAt, asIntOf, run_und ht, Instr.sureAddr, run_szo hs, hb, addr_add, Nat.add_assoc]
    · cases h
  · rename_i e id off n cap es pre ht
    split at h
    · rename_i s hs
      cases hb : (Nat.beq s es && Nat.blt i n) with
      | false => rw [hb] at h; cases h
      | true =>
        rw [hb, cond_true] at h
        obtain rfl := Option.some.inj h
        rw [Bool.and_eq_true, Nat.beq_eq, blt_iff] at hb
        obtain ⟨rfl, hb⟩ := hb
        simp only [cvo, Option.bind_eq_some_iff, Option.ite_none_right_eq_some, Option.some.injEq] at ha
        obtain ⟨L, hL, ⟨g1, g2, g3⟩, rfl⟩ := ha
        have hc : cap.getD ((L.e - off) / s) ≠ 0 := by omega
        refine ⟨.pointer (some ⟨L.b, L.s + (off + i * s), none⟩), by simp [cvo, hL], fun w => ?_⟩
        simp [Instr.indexAt, asIntOf, run_und ht, run_szo hs, hb, addr_add, Nat.add_assoc, hc]
    · cases h
  · cases h
theorem aidx_ok {m : Map} {t : TypeId} {a r : AV} {i : Nat} {v : Value} (h : aidx P t a i = some r) (ha : cvo m a = some v) (k : IntKind) : ∃ z, cvo m r = some z ∧ ∀ w, (Instr.index t v (.int k (i : Int))).run P w = .ok z w := by
  unfold aidx at h
  split at h
  · rename_i n e l ht
    split at h
    · rename_i s hs
      cases hb : Nat.blt i n with
      | false => rw [hb] at h; cases h
      | true =>
        rw [hb, cond_true] at h
        rw [blt_iff] at hb
        simp only [cvo, Option.map_eq_some_iff] at ha
        obtain ⟨vs, hl, rfl⟩ := ha
        obtain ⟨z, h1, h2⟩ := prt_ok h hl
        refine ⟨z, h1, fun w => ?_⟩
        simp [Instr.index, asIntOf, run_und ht, run_szo hs, hb, h2]
    · cases h
  · rename_i n x ht
    cases hb : Nat.blt i n with
    | false => rw [hb] at h; cases h
    | true =>
      rw [hb, cond_true] at h
      obtain rfl := Option.some.inj h
      rw [blt_iff] at hb
      simp only [cvo, Option.ite_none_right_eq_some, Option.some.injEq] at ha
      obtain ⟨_, rfl⟩ := ha
      refine ⟨_, rfl, fun w => ?_⟩
      have hg := unp_get n x i hb
      have hg' : (ByteArray.mk (unp n x).toArray)[i]? = some (UInt8.ofNat ((x >>> (8 * i)) % 256)) := by
        have hsz : i < (ByteArray.mk (unp n x).toArray).size := by simpa [ByteArray.size, unp_length] using hb
        rw [getElem?_pos (ByteArray.mk (unp n x).toArray) i hsz]
        rw [List.getElem?_eq_some_iff] at hg
        obtain ⟨_, hg⟩ := hg
        rw [← hg]; rfl
      simp [Instr.index, asIntOf, run_und ht, hg']
      rfl
  · cases h
end
end Am
