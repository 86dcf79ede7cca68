/- A machine for closed runs: the operations that ask no memory. No program in sight. -/
import Derived.Test.YtbeageacgalhiaaGreatDoorAmB
set_option linter.unusedVariables false
set_option linter.unusedSimpArgs false
namespace Am
open Go
noncomputable section

theorem run_und {P : Program} {t : TypeId} {d : TypeDesc} (h : und P t = some d) (w : World) : (underlying t).run P w = .ok d w := run_underlying (und_ok h) w
theorem run_szo {P : Program} {t : TypeId} {n : Nat} (h : szo P t = some n) (w : World) : (Go.sizeOf t).run P w = .ok n w := by
  have h := szo_ok h
  rw [Option.map_eq_some_iff] at h
  obtain ⟨i, h1, rfl⟩ := h
  simp [Go.sizeOf, typeInfo, h1]
theorem run_isA {P : Program} {t : TypeId} {d : TypeDesc} (h : und P t = some d) (w : World) : (isAgg t).run P w = .ok (isA d) w := by
  unfold isAgg
  rw [Sem.run_bind, run_und h]
  cases d <;> rfl

def prt (P : Program) (t : TypeId) (l : List AV) (off : Nat) : Option AV :=
  match und P t with
  | some d => bif isA d then (match szo P t with | some n => some (.ag (tke n (drp off l))) | none => none) else nth l off
  | none => none
theorem prt_ok {P : Program} {t : TypeId} {l : List AV} {off : Nat} {a : AV} {m : Map} {vs : List Value} (h : prt P t l off = some a) (hl : cvs m l = some vs) :
    ∃ v, cvo m a = some v ∧ ∀ w, (part t vs.toArray off).run P w = .ok v w := by
  unfold prt at h
  split at h
  · rename_i d hd
    cases hA : isA d with
    | true =>
      rw [hA, cond_true] at h
      split at h
      · rename_i n hn
        have h := (Option.some.inj h).symm; subst h
        refine ⟨.agg ((vs.drop off).take n).toArray, ?_, fun w => ?_⟩
        · simp [cvo, tke_eq, drp_eq, cvs_take n (cvs_drop off hl)]
        · unfold part
          rw [Sem.run_bind, run_isA hd, hA]
          simp [run_szo hn, List.extract_toArray, List.extract_eq_take_drop]
      · cases h
    | false =>
      rw [hA, cond_false, nth_eq] at h
      obtain ⟨v, h1, h2⟩ := cvs_get hl h
      refine ⟨v, h2, fun w => ?_⟩
      unfold part
      rw [Sem.run_bind, run_isA hd, hA]
      simp [h1]
  · cases h

/-! numbers -/
def ikin (op : BinOp) (k : IntKind) (x y : Int) : Option AV :=
  match op with
  | .add => some (.i k (iwrap k (x + y)))
  | .sub => some (.i k (iwrap k (x - y)))
  | .mul => some (.i k (iwrap k (x * y)))
  | .quo => bif ieq y 0 then none else some (.i k (iwrap k (x.tdiv y)))
  | .rem => bif ieq y 0 then none else some (.i k (x.tmod y))
  | .eql => some (.b (ieq x y))
  | .neq => some (.b (!ieq x y))
  | .lss => some (.b (ilt x y))
  | .leq => some (.b (!ilt y x))
  | .gtr => some (.b (ilt y x))
  | .geq => some (.b (!ilt x y))
  | .and => match x, y with
    | .ofNat a, .ofNat b => bif Nat.blt a (2 ^ k.bits) && Nat.blt b (2 ^ k.bits) then some (.i k (iwrap k (.ofNat (Nat.land a b)))) else none
    | _, _ => none
  | .or => match x, y with
    | .ofNat a, .ofNat b => bif Nat.blt a (2 ^ k.bits) && Nat.blt b (2 ^ k.bits) then some (.i k (iwrap k (.ofNat (Nat.lor a b)))) else none
    | _, _ => none
  | .xor => match x, y with
    | .ofNat a, .ofNat b => bif Nat.blt a (2 ^ k.bits) && Nat.blt b (2 ^ k.bits) then some (.i k (iwrap k (.ofNat (Nat.xor a b)))) else none
    | _, _ => none
  | _ => none
def ishf (op : BinOp) (k : IntKind) (x y : Int) : Option AV :=
  match op, y with
  | .shl, .ofNat n => some (.i k (iwrap k (x * (2 ^ (min n k.bits) : Nat))))
  | .shr, .ofNat n => some (.i k (x.fdiv (2 ^ (min n k.bits) : Nat)))
  | _, _ => none
theorem ofInt_nat {n a : Nat} (h : a < 2 ^ n) : (BitVec.ofInt n (Int.ofNat a)) = BitVec.ofNat n a := by
  apply BitVec.eq_of_toNat_eq
  simp [BitVec.toNat_ofInt]
theorem binOp_int (P : Program) (t : TypeId) (op : BinOp) (k : IntKind) (x y : Int) (w : World) (h1 : op ≠ .shl) (h2 : op ≠ .shr) : (binOp op t (.int k x) (.int k y)).run P w =
    (match op with
    | .add | .sub | .mul => Op.intArith op k x y
    | .quo | .rem => Op.intDiv op k x y
    | .and | .or | .xor | .andNot => Op.intBits op k x y
    | _ => Op.intCmp op x y).run P w := by
  cases op <;> first | exact absurd rfl h1 | exact absurd rfl h2 | simp [binOp]
theorem ikin_ok {P : Program} {t : TypeId} {op : BinOp} {k : IntKind} {x y : Int} {a : AV} (h : ikin op k x y = some a) (m : Map) :
    ∃ v, cvo m a = some v ∧ ∀ w, (binOp op t (.int k x) (.int k y)).run P w = .ok v w := by
  cases op <;> simp only [ikin] at h
  case quo =>
    cases hy : ieq y 0 with
    | true => rw [hy] at h; cases h
    | false =>
      rw [hy] at h; have h := (Option.some.inj h).symm; subst h
      have : y ≠ 0 := by rw [ieq_eq] at hy; simpa using hy
      exact ⟨_, rfl, fun w => by simp [binOp, Op.intDiv, this, iwrap_eq]⟩
  case rem =>
    cases hy : ieq y 0 with
    | true => rw [hy] at h; cases h
    | false =>
      rw [hy] at h; have h := (Option.some.inj h).symm; subst h
      have : y ≠ 0 := by rw [ieq_eq] at hy; simpa using hy
      exact ⟨_, rfl, fun w => by simp [binOp, Op.intDiv, this, iwrap_eq]⟩
  case and =>
    split at h
    · rename_i p q
      cases hb : Nat.blt p (2 ^ k.bits) && Nat.blt q (2 ^ k.bits) with
      | false => rw [hb] at h; cases h
      | true =>
        rw [hb] at h; have h := (Option.some.inj h).symm; subst h
        rw [Bool.and_eq_true, blt_iff, blt_iff] at hb
        refine ⟨_, rfl, fun w => ?_⟩
        simp only [binOp, ne_eq, not_true_eq_false, if_false, Op.intBits, ofInt_nat hb.1, ofInt_nat hb.2, Sem.run_pure, iwrap_eq]
        simp [BitVec.toNat_and, Nat.mod_eq_of_lt hb.1, Nat.mod_eq_of_lt hb.2]
    · cases h
  case or =>
    split at h
    · rename_i p q
      cases hb : Nat.blt p (2 ^ k.bits) && Nat.blt q (2 ^ k.bits) with
      | false => rw [hb] at h; cases h
      | true =>
        rw [hb] at h; have h := (Option.some.inj h).symm; subst h
        rw [Bool.and_eq_true, blt_iff, blt_iff] at hb
        refine ⟨_, rfl, fun w => ?_⟩
        simp only [binOp, ne_eq, not_true_eq_false, if_false, Op.intBits, ofInt_nat hb.1, ofInt_nat hb.2, Sem.run_pure, iwrap_eq]
        simp [BitVec.toNat_or, Nat.mod_eq_of_lt hb.1, Nat.mod_eq_of_lt hb.2]
    · cases h
  case xor =>
    split at h
    · rename_i p q
      cases hb : Nat.blt p (2 ^ k.bits) && Nat.blt q (2 ^ k.bits) with
      | false => rw [hb] at h; cases h
      | true =>
        rw [hb] at h; have h := (Option.some.inj h).symm; subst h
        rw [Bool.and_eq_true, blt_iff, blt_iff] at hb
        refine ⟨_, rfl, fun w => ?_⟩
        simp only [binOp, ne_eq, not_true_eq_false, if_false, Op.intBits, ofInt_nat hb.1, ofInt_nat hb.2, Sem.run_pure, iwrap_eq]
        simp [BitVec.toNat_xor, Nat.mod_eq_of_lt hb.1, Nat.mod_eq_of_lt hb.2]
    · cases h
  all_goals first | (cases h; done) | skip
  all_goals (have h := (Option.some.inj h).symm; subst h; refine ⟨_, rfl, fun w => ?_⟩; simp [binOp, Op.intArith, Op.intCmp, iwrap_eq, ilt_eq, ieq_eq])
  case neq => rfl
  all_goals (rw [Bool.eq_iff_iff]; simp)
theorem ishf_ok {P : Program} {t : TypeId} {op : BinOp} {k k' : IntKind} {x y : Int} {a : AV} (h : ishf op k x y = some a) (m : Map) :
    ∃ v, cvo m a = some v ∧ ∀ w, (binOp op t (.int k x) (.int k' y)).run P w = .ok v w := by
  unfold ishf at h
  split at h
  · have h := (Option.some.inj h).symm; subst h
    refine ⟨_, rfl, fun w => ?_⟩
    simp only [binOp, Op.shift, iwrap_eq]
    rw [if_neg (by simp)]; simp
  · have h := (Option.some.inj h).symm; subst h
    refine ⟨_, rfl, fun w => ?_⟩
    simp only [binOp, Op.shift, iwrap_eq]
    rw [if_neg (by simp)]; simp
  · cases h

/-! texts -/
theorem unp_eq_iff {n x k y : Nat} (hx : x < 256 ^ n) (hy : y < 256 ^ k) : ((unp n x == unp k y) = (Nat.beq n k && Nat.beq x y)) := by
  rw [Bool.eq_iff_iff, beq_iff_eq, Bool.and_eq_true, Nat.beq_eq, Nat.beq_eq]
  constructor
  · intro h
    have e : n = k := by have := congrArg List.length h; simpa [unp_length] using this
    subst e
    exact ⟨rfl, unp_inj n x y hx hy h⟩
  · rintro ⟨rfl, rfl⟩; rfl
theorem ba_toList (l : List UInt8) : (ByteArray.mk l.toArray).toList = l := by
  exact ByteArray.toList_mk l
theorem ba_append (l k : List UInt8) : (ByteArray.mk l.toArray) ++ (ByteArray.mk k.toArray) = ByteArray.mk (l ++ k).toArray := by
  apply ByteArray.ext
  simp [ByteArray.data_append]
def strin (op : BinOp) (n x k y : Nat) : Option AV :=
  match op with
  | .add => bif Nat.ble (n + k) 4611686018427387904 then some (.s (n + k) (x + Nat.shiftLeft y (8 * n))) else none
  | .eql => some (.b (Nat.beq n k && Nat.beq x y))
  | .neq => some (.b (!(Nat.beq n k && Nat.beq x y)))
  | _ => none
theorem strin_ok {P : Program} {t : TypeId} {op : BinOp} {n x k y : Nat} {a : AV} (h : strin op n x k y = some a) (m : Map) (hx : x < 256 ^ n) (hy : y < 256 ^ k) :
    ∃ v, cvo m a = some v ∧ ∀ w, (binOp op t (.string ⟨(unp n x).toArray⟩) (.string ⟨(unp k y).toArray⟩)).run P w = .ok v w := by
  unfold strin at h
  split at h
  · cases hb : Nat.ble (n + k) 4611686018427387904 with
    | false => rw [hb] at h; cases h
    | true =>
      rw [hb] at h; have h := (Option.some.inj h).symm; subst h
      rw [Nat.ble_eq] at hb
      have hlt : x + Nat.shiftLeft y (8 * n) < 256 ^ (n + k) := by
        have e : Nat.shiftLeft y (8 * n) = y * 256 ^ n := by rw [pow256]; exact Nat.shiftLeft_eq _ _
        rw [e, Nat.pow_add]
        have h1 : y * 256 ^ n + 256 ^ n ≤ 256 ^ k * 256 ^ n := by
          have := Nat.mul_le_mul_right (256 ^ n) (Nat.succ_le_of_lt hy)
          rw [Nat.succ_mul] at this; exact this
        rw [Nat.mul_comm (256 ^ n)]; omega
      refine ⟨.string ⟨(unp (n + k) (x + y <<< (8 * n))).toArray⟩, ?_, fun w => ?_⟩
      · simp only [cvo]; rw [if_pos hlt]; rfl
      · have hsz : ¬ (((ByteArray.mk (unp n x).toArray).size + (ByteArray.mk (unp k y).toArray).size : Nat) : Int) > IntKind.i64.max := by
          simp only [ByteArray.size, List.size_toArray, unp_length, IntKind.max, IntKind.signed, IntKind.bits]
          simp; omega
        simp only [binOp, Op.stringOp]
        rw [if_neg hsz, ba_append, unp_append n x k y hx]; rfl
  · have h := (Option.some.inj h).symm; subst h
    refine ⟨_, rfl, fun w => ?_⟩
    simp only [binOp, Op.stringOp, ba_toList, unp_eq_iff hx hy]; rfl
  · have h := (Option.some.inj h).symm; subst h
    refine ⟨_, rfl, fun w => ?_⟩
    simp only [binOp, Op.stringOp, ba_toList, unp_eq_iff hx hy]; rfl
  · cases h
end
end Am
