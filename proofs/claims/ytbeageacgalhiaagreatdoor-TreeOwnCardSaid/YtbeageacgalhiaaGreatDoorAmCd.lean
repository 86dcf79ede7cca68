/- A machine for closed runs: operations on numbers, turned into functions, are sound. No program in sight. -/
import Derived.Test.YtbeageacgalhiaaGreatDoorAmCc
set_option linter.unusedVariables false
set_option linter.unusedSimpArgs false
namespace Am
open Go
noncomputable section
variable {P : Program} {K : Known}

theorem add0 {a b : Nat} (h : Nat.add a b = 0) : a = 0 ∧ b = 0 := by
  have h : a + b = 0 := h
  omega
theorem sub0 {a b : Nat} (h : Nat.sub a b = 0) : a ≤ b := by
  have h : a - b = 0 := h
  omega
/-! numbers not below zero -/
theorem vI_rng {c : Nat} (h : vI c = 0) : 4 ≤ c % 32 ∧ c % 32 ≤ 11 := by
  obtain ⟨h1, h2⟩ := add0 h
  exact ⟨sub0 h1, sub0 h2⟩
theorem dec_int {c : Nat} (h1 : 4 ≤ c % 32) (h2 : c % 32 ≤ 11) (bx : Option AV) : dec c bx = some (.i (kof (c % 32)) (.ofNat (c / 32))) := by
  show cnd (Nat.ble (c % 32) 15) (cnd (Nat.ble (c % 32) 3) (dlo (c % 32) (c / 32) bx) (cnd (Nat.ble (c % 32) 11) (some (.i (kof (c % 32)) (.ofNat (c / 32)))) _)) _ = _
  rw [bl (by omega : c % 32 ≤ 15), bln (by omega : ¬ c % 32 ≤ 3), bl h2]; rfl
theorem tag8 {P : Nat → Prop} {g : Nat} (h1 : 4 ≤ g) (h2 : g ≤ 11) (h : P 4 ∧ P 5 ∧ P 6 ∧ P 7 ∧ P 8 ∧ P 9 ∧ P 10 ∧ P 11) : P g := by
  obtain ⟨a, b, c, d, e, f, i, j⟩ := h
  have : g = 4 ∨ g = 5 ∨ g = 6 ∨ g = 7 ∨ g = 8 ∨ g = 9 ∨ g = 10 ∨ g = 11 := by omega
  rcases this with rfl | rfl | rfl | rfl | rfl | rfl | rfl | rfl <;> assumption
theorem klim_kof {g : Nat} (h1 : 4 ≤ g) (h2 : g ≤ 11) : klim (kof g) = 2 ^ xlim g :=
  tag8 (P := fun g => klim (kof g) = 2 ^ xlim g) h1 h2 ⟨rfl, rfl, rfl, rfl, rfl, rfl, rfl, rfl⟩
theorem bits_kof {g : Nat} (h1 : 4 ≤ g) (h2 : g ≤ 11) : (kof g).bits = xbits g :=
  tag8 (P := fun g => (kof g).bits = xbits g) h1 h2 ⟨rfl, rfl, rfl, rfl, rfl, rfl, rfl, rfl⟩
theorem xlim_le {g : Nat} (h1 : 4 ≤ g) (h2 : g ≤ 11) : xlim g ≤ 64 :=
  tag8 (P := fun g => xlim g ≤ 64) h1 h2 (by decide)
theorem shr_lt {r e : Nat} (h : Nat.shiftRight r e = 0) : r < 2 ^ e := by
  have h : r >>> e = 0 := h
  rw [Nat.shiftRight_eq_div_pow] at h
  rcases Nat.lt_or_ge r (2 ^ e) with h1 | h1
  · exact h1
  · have := Nat.div_pos h1 (Nat.two_pow_pos e)
    omega
theorem lim_lt {g r : Nat} (h1 : 4 ≤ g) (h2 : g ≤ 11) (h : Nat.shiftRight r (xlim g) = 0) : r < klim (kof g) := by
  rw [klim_kof h1 h2]; exact shr_lt h
theorem tagd_lt {g r : Nat} (hg : g < 32) (h : r < 2 ^ 64) : tagd g r < 2 ^ 192 := by
  show 32 * r + g < 2 ^ 192
  have : (2 : Nat) ^ 64 = 18446744073709551616 := by decide
  have : (2 : Nat) ^ 192 = 6277101735386680763835789423207666416102355444464034512896 := by decide
  omega
theorem dec_tagI {g r : Nat} (h1 : 4 ≤ g) (h2 : g ≤ 11) (bx : Option AV) : dec (tagd g r) bx = some (.i (kof g) (.ofNat r)) := by
  rw [dec_tagd (by omega)]
  show cnd (Nat.ble g 15) (cnd (Nat.ble g 3) (dlo g r bx) (cnd (Nat.ble g 11) (some (.i (kof g) (.ofNat r))) _)) _ = _
  rw [bl (by omega : g ≤ 15), bln (by omega : ¬ g ≤ 3), bl h2]; rfl
theorem small_lt {k : IntKind} {r : Nat} (h : r < klim k) : small k r = .ofNat r := by
  unfold small; rw [cnd_eq, if_pos (by rw [blt_iff]; exact h)]
theorem keq_self (k : IntKind) : keq k k = true := by cases k <;> rfl
theorem xor_zero {a b : Nat} (h : a ^^^ b = 0) : a = b := Nat.eq_of_testBit_eq fun i => by
  have := congrArg (fun x => x.testBit i) h
  simpa [Nat.testBit_xor] using this
theorem xor_mod {a b : Nat} (h : Nat.mod (Nat.xor a b) 32 = 0) : a % 32 = b % 32 := by
  have h : (a ^^^ b) % 2 ^ 5 = 0 := h
  rw [Nat.xor_mod_two_pow] at h
  exact xor_zero h
theorem vII_rng {a b : Nat} (h : vII a b = 0) : a % 32 = b % 32 ∧ 4 ≤ a % 32 ∧ a % 32 ≤ 11 := by
  obtain ⟨h1, h2⟩ := add0 h
  exact ⟨xor_mod h1, vI_rng h2⟩
def OpdOk (K : Known) (x : Operand) (f : Nat → Nat) (g : T AV → Option AV) : Prop := ∀ n, f n < 2 ^ 192 ∧ ∀ t, evo K ⟨n, t⟩ x = dec (f n) (g t)
variable {nt : Nat} {dst : Option Tmp} {x y : Operand} {f f' : Nat → Nat} {g g' : T AV → Option AV}
theorem int_op (h : OpdOk K x f g) {n : Nat} {t : T AV} (hv : vI (f n) = 0) : evo K ⟨n, t⟩ x = some (.i (kof (f n % 32)) (.ofNat (f n / 32))) := by
  rw [(h n).2 t]; exact dec_int (vI_rng hv).1 (vI_rng hv).2 _
/-- two numbers of one kind -/
theorem ik_of {op : BinOp} {ty uy : TypeId} (hx : OpdOk K x f g) (hy : OpdOk K y f' g') {n : Nat} {t : T AV} {S : St} (hv : vII (f n) (f' n) = 0) {r : AV} (h : ikq op (kof (f n % 32)) (kof (f n % 32)) (.ofNat (f n / 32)) (.ofNat (f' n / 32)) = some r) (ih : IH) :
    aop0 P K ih S (evo K ⟨n, t⟩) (.binOp op ty x y uy) = .ok r S := by
  obtain ⟨h1, h2, h3⟩ := vII_rng hv
  refine aop0_pure (qbin_ok ?_)
  have e1 : evo K ⟨n, t⟩ x = some (.i (kof (f n % 32)) (.ofNat (f n / 32))) := by rw [(hx n).2 t]; exact dec_int h2 h3 _
  have e2 : evo K ⟨n, t⟩ y = some (.i (kof (f n % 32)) (.ofNat (f' n / 32))) := by rw [(hy n).2 t, h1]; exact dec_int (by omega) (by omega) _
  unfold qbin
  rw [e1, e2]
  exact h
theorem lt64 {g r : Nat} (h1 : 4 ≤ g) (h2 : g ≤ 11) (h : Nat.shiftRight r (xlim g) = 0) : r < 2 ^ 64 := Nat.lt_of_lt_of_le (shr_lt h) (Nat.pow_le_pow_right (by decide) (xlim_le h1 h2))
/-- a result of arithmetic -/
theorem arith_ok {op : BinOp} {ty uy : TypeId} (hx : OpdOk K x f g) (hy : OpdOk K y f' g') {n : Nat} {t : T AV} {S : St} {r : Nat} (hv : vII (f n) (f' n) = 0) (hl : vlim (f n) r = 0)
    (h : r < klim (kof (f n % 32)) → ikq op (kof (f n % 32)) (kof (f n % 32)) (.ofNat (f n / 32)) (.ofNat (f' n / 32)) = some (.i (kof (f n % 32)) (.ofNat r))) :
    tagI (f n) r < 2 ^ 192 ∧ ∃ a, (∀ bx, dec (tagI (f n) r) bx = some a) ∧ ∀ ih, aop0 P K ih S (evo K ⟨n, t⟩) (.binOp op ty x y uy) = .ok a S := by
  obtain ⟨h1, h2, h3⟩ := vII_rng hv
  have e : tagI (f n) r = tagd (f n % 32) r := rfl
  have hl : Nat.shiftRight r (xlim (f n % 32)) = 0 := hl
  rw [e]
  exact ⟨tagd_lt (by omega) (lt64 h2 h3 hl), _, fun bx => dec_tagI h2 h3 bx, fun ih => ik_of hx hy hv (h (lim_lt h2 h3 hl)) ih⟩
theorem cmp_ok {op : BinOp} {ty uy : TypeId} (hx : OpdOk K x f g) (hy : OpdOk K y f' g') {n : Nat} {t : T AV} {S : St} {c : Nat} {b : Bool} (hv : vII (f n) (f' n) = 0) (hc : c = if b then 1 else 0)
    (h : ikq op (kof (f n % 32)) (kof (f n % 32)) (.ofNat (f n / 32)) (.ofNat (f' n / 32)) = some (.b b)) :
    bitC c < 2 ^ 192 ∧ ∃ a, (∀ bx, dec (bitC c) bx = some a) ∧ ∀ ih, aop0 P K ih S (evo K ⟨n, t⟩) (.binOp op ty x y uy) = .ok a S := by
  subst hc
  refine ⟨by cases b <;> decide, .b b, fun bx => by cases b <;> rfl, fun ih => ik_of hx hy hv h ih⟩
theorem eq01_eq (a b : Nat) : eq01 a b = if (Nat.beq a b) = true then 1 else 0 := by
  show 1 - ((a - b) + (b - a)) = _
  by_cases h : a = b
  · rw [bq h, if_pos rfl]; omega
  · rw [bqn h]; simp only [Bool.false_eq_true, if_false]; omega
theorem le01_eq (a b : Nat) : le01 a b = if (Nat.ble a b) = true then 1 else 0 := by
  show 1 - (a - b) = _
  by_cases h : a ≤ b
  · rw [bl h, if_pos rfl]; omega
  · rw [bln h]; simp only [Bool.false_eq_true, if_false]; omega
theorem sub1_if (b : Bool) : Nat.sub 1 (if b = true then 1 else 0) = if (qnot b) = true then 1 else 0 := by cases b <;> rfl
theorem qlt_nat (a b : Nat) : qlt (.ofNat a) (.ofNat b) = Nat.ble (Nat.succ a) b := rfl
theorem qnot_lt (a b : Nat) : qnot (qlt (.ofNat b) (.ofNat a)) = Nat.ble a b := by
  rw [qlt_nat]
  by_cases h : a ≤ b
  · rw [bl h, bln (show ¬ Nat.succ b ≤ a by omega)]; rfl
  · rw [bln h, bl (show Nat.succ b ≤ a by omega)]; rfl
theorem lo2_eq (a b : Nat) : lo2 a b = min a b := by
  show a - (a - b) = min a b
  omega
theorem bits_ok {a b : Nat} (h1 : vII a b = 0) (h : Nat.shiftRight (Nat.lor (pl a) (pl b)) (xbits (Nat.mod a 32)) = 0) : Nat.blt (pl a) (2 ^ (kof (a % 32)).bits) = true ∧ Nat.blt (pl b) (2 ^ (kof (a % 32)).bits) = true := by
  obtain ⟨_, h2, h3⟩ := vII_rng h1
  have h : (pl a ||| pl b) < 2 ^ xbits (a % 32) := shr_lt h
  rw [bits_kof h2 h3, blt_iff, blt_iff]
  exact ⟨Nat.lt_of_le_of_lt Nat.left_le_or h, Nat.lt_of_le_of_lt Nat.right_le_or h⟩
theorem shift_ok {op : BinOp} {ty uy : TypeId} (hx : OpdOk K x f g) (hy : OpdOk K y f' g') {n : Nat} {t : T AV} {S : St} {r : Nat} (h1 : vI (f n) = 0) (h2 : vI (f' n) = 0) (hl : vlim (f n) r = 0)
    (h : r < klim (kof (f n % 32)) → ikq op (kof (f n % 32)) (kof (f' n % 32)) (.ofNat (f n / 32)) (.ofNat (f' n / 32)) = some (.i (kof (f n % 32)) (.ofNat r))) :
    tagI (f n) r < 2 ^ 192 ∧ ∃ a, (∀ bx, dec (tagI (f n) r) bx = some a) ∧ ∀ ih, aop0 P K ih S (evo K ⟨n, t⟩) (.binOp op ty x y uy) = .ok a S := by
  obtain ⟨r1, r2⟩ := vI_rng h1
  have e : tagI (f n) r = tagd (f n % 32) r := rfl
  have hl : Nat.shiftRight r (xlim (f n % 32)) = 0 := hl
  rw [e]
  refine ⟨tagd_lt (by omega) (lt64 r1 r2 hl), _, fun bx => dec_tagI r1 r2 bx, fun ih => aop0_pure (qbin_ok ?_)⟩
  unfold qbin
  rw [int_op hx h1, int_op hy h2]
  exact h (lim_lt r1 r2 hl)
theorem fBin_ok (op : BinOp) {ty uy : TypeId} (hx : OpdOk K x f g) (hy : OpdOk K y f' g') : FastOk P K nt dst (.binOp op ty x y uy) (fBin op f f') := by
  cases op with
  | add =>
    intro n t S h
    obtain ⟨h1, h2⟩ := add0 h
    refine arith_ok hx hy h1 h2 fun hr => ?_
    show cnd (keq _ _) (some (AV.i _ (small _ (Nat.add (pl (f n)) (pl (f' n)))))) none = _
    rw [keq_self, small_lt hr]; rfl
  | sub =>
    intro n t S h
    obtain ⟨h1, h2⟩ := add0 h
    obtain ⟨h1, h3⟩ := add0 h1
    refine arith_ok hx hy h1 h2 fun hr => ?_
    show cnd (keq _ _) (some (AV.i _ (cnd (Nat.ble (pl (f' n)) (pl (f n))) (small _ (Nat.sub (pl (f n)) (pl (f' n)))) _))) none = _
    rw [keq_self, small_lt hr, bl (sub0 h3)]; rfl
  | mul =>
    intro n t S h
    obtain ⟨h1, h2⟩ := add0 h
    refine arith_ok hx hy h1 h2 fun hr => ?_
    show cnd (keq _ _) (some (AV.i _ (small _ (Nat.mul (pl (f n)) (pl (f' n)))))) none = _
    rw [keq_self, small_lt hr]; rfl
  | quo =>
    intro n t S h
    obtain ⟨h1, h2⟩ := add0 h
    obtain ⟨h1, h3⟩ := add0 h1
    refine arith_ok hx hy h1 h2 fun hr => ?_
    show cnd (keq _ _) (cnd (Nat.beq (pl (f' n)) 0) none (some (AV.i _ (small _ (Nat.div (pl (f n)) (pl (f' n))))))) none = _
    have h3 : 1 ≤ pl (f' n) := sub0 h3
    rw [keq_self, small_lt hr, bqn (by omega : pl (f' n) ≠ 0)]; rfl
  | rem =>
    intro n t S h
    obtain ⟨h1, h2⟩ := add0 h
    obtain ⟨h1, h3⟩ := add0 h1
    refine arith_ok hx hy h1 h2 fun hr => ?_
    show cnd (keq _ _) (cnd (Nat.beq (pl (f' n)) 0) none (some (AV.i _ (.ofNat (Nat.mod (pl (f n)) (pl (f' n))))))) none = _
    have h3 : 1 ≤ pl (f' n) := sub0 h3
    rw [keq_self, bqn (by omega : pl (f' n) ≠ 0)]; rfl
  | and =>
    intro n t S h
    obtain ⟨h1, h2⟩ := add0 h
    obtain ⟨h1, h3⟩ := add0 h1
    have hb := bits_ok h1 h3
    refine arith_ok hx hy h1 h2 fun hr => ?_
    show cnd (keq _ _) (bif Nat.blt (pl (f n)) (2 ^ (kof (f n % 32)).bits) && Nat.blt (pl (f' n)) (2 ^ (kof (f n % 32)).bits) then some (AV.i _ (iwrap _ (.ofNat (Nat.land (pl (f n)) (pl (f' n)))))) else none) none = _
    rw [keq_self, hb.1, hb.2, ← small_eq, small_lt hr]; rfl
  | or =>
    intro n t S h
    obtain ⟨h1, h2⟩ := add0 h
    obtain ⟨h1, h3⟩ := add0 h1
    have hb := bits_ok h1 h3
    refine arith_ok hx hy h1 h2 fun hr => ?_
    show cnd (keq _ _) (bif Nat.blt (pl (f n)) (2 ^ (kof (f n % 32)).bits) && Nat.blt (pl (f' n)) (2 ^ (kof (f n % 32)).bits) then some (AV.i _ (iwrap _ (.ofNat (Nat.lor (pl (f n)) (pl (f' n)))))) else none) none = _
    rw [keq_self, hb.1, hb.2, ← small_eq, small_lt hr]; rfl
  | xor =>
    intro n t S h
    obtain ⟨h1, h2⟩ := add0 h
    obtain ⟨h1, h3⟩ := add0 h1
    have hb := bits_ok h1 h3
    refine arith_ok hx hy h1 h2 fun hr => ?_
    show cnd (keq _ _) (bif Nat.blt (pl (f n)) (2 ^ (kof (f n % 32)).bits) && Nat.blt (pl (f' n)) (2 ^ (kof (f n % 32)).bits) then some (AV.i _ (iwrap _ (.ofNat (Nat.xor (pl (f n)) (pl (f' n)))))) else none) none = _
    rw [keq_self, hb.1, hb.2, ← small_eq, small_lt hr]; rfl
  | shl =>
    intro n t S h
    obtain ⟨h1, h2⟩ := add0 h
    obtain ⟨h1, h3⟩ := add0 h1
    refine shift_ok hx hy h1 h3 h2 fun hr => ?_
    show some (AV.i _ (small _ (Nat.mul (pl (f n)) (Nat.pow 2 (nsh _ (pl (f' n))))))) = _
    have e : Nat.mul (pl (f n)) (Nat.pow 2 (nsh (kof (f n % 32)) (pl (f' n)))) = Nat.shiftLeft (pl (f n)) (lo2 (pl (f' n)) (xbits (Nat.mod (f n) 32))) := by
      rw [nsh_eq, lo2_eq, bits_kof (vI_rng h1).1 (vI_rng h1).2]
      show (pl (f n)) * 2 ^ _ = (pl (f n)) <<< _
      rw [Nat.shiftLeft_eq]; rfl
    rw [e, small_lt hr]
  | shr =>
    intro n t S h
    obtain ⟨h1, h2⟩ := add0 h
    obtain ⟨h1, h3⟩ := add0 h1
    refine shift_ok hx hy h1 h3 h2 fun hr => ?_
    show some (AV.i _ (.ofNat (Nat.div (pl (f n)) (Nat.pow 2 (nsh _ (pl (f' n))))))) = _
    have e : Nat.div (pl (f n)) (Nat.pow 2 (nsh (kof (f n % 32)) (pl (f' n)))) = Nat.shiftRight (pl (f n)) (lo2 (pl (f' n)) (xbits (Nat.mod (f n) 32))) := by
      rw [nsh_eq, lo2_eq, bits_kof (vI_rng h1).1 (vI_rng h1).2]
      show (pl (f n)) / 2 ^ _ = (pl (f n)) >>> _
      rw [Nat.shiftRight_eq_div_pow]; rfl
    rw [e]
  | andNot => trivial
  | eql =>
    intro n t S h
    refine cmp_ok hx hy h (b := qeq (.ofNat (pl (f n))) (.ofNat (pl (f' n)))) (eq01_eq _ _) ?_
    show cnd (keq _ _) _ none = _
    rw [keq_self]; rfl
  | neq =>
    intro n t S h
    refine cmp_ok hx hy h (b := qnot (qeq (.ofNat (pl (f n))) (.ofNat (pl (f' n))))) (by show Nat.sub 1 (eq01 _ _) = _; rw [eq01_eq]; exact sub1_if _) ?_
    show cnd (keq _ _) _ none = _
    rw [keq_self]; rfl
  | lss =>
    intro n t S h
    refine cmp_ok hx hy h (b := qlt (.ofNat (pl (f n))) (.ofNat (pl (f' n)))) (le01_eq _ _) ?_
    show cnd (keq _ _) _ none = _
    rw [keq_self]; rfl
  | leq =>
    intro n t S h
    refine cmp_ok hx hy h (b := qnot (qlt (.ofNat (pl (f' n))) (.ofNat (pl (f n))))) (by rw [qnot_lt]; exact le01_eq _ _) ?_
    show cnd (keq _ _) _ none = _
    rw [keq_self]; rfl
  | gtr =>
    intro n t S h
    refine cmp_ok hx hy h (b := qlt (.ofNat (pl (f' n))) (.ofNat (pl (f n)))) (le01_eq _ _) ?_
    show cnd (keq _ _) _ none = _
    rw [keq_self]; rfl
  | geq =>
    intro n t S h
    refine cmp_ok hx hy h (b := qnot (qlt (.ofNat (pl (f n))) (.ofNat (pl (f' n))))) (by rw [qnot_lt]; exact le01_eq _ _) ?_
    show cnd (keq _ _) _ none = _
    rw [keq_self]; rfl
end
end Am
