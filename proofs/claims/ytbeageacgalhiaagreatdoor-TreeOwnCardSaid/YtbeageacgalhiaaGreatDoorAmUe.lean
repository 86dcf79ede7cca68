/- A machine for closed runs: what the places of a frame hold, packed. No program in sight. -/
import Derived.Test.YtbeageacgalhiaaGreatDoorAmT
set_option linter.unusedVariables false
set_option linter.unusedSimpArgs false
namespace Am
open Go
noncomputable section

/-- packed: 192 bits a place. A text, a struct, a tuple and a function lie in 't' -/
structure Env where
  n : Nat
  t : T AV
def cnd {α : Type} (b : Bool) (x y : α) : α := Bool.rec y x b
theorem cnd_eq {α : Type} (b : Bool) (x y : α) : cnd b x y = if b then x else y := by cases b <;> rfl
def slot (n t : Nat) : Nat := Nat.mod (Nat.shiftRight n (Nat.mul 192 t)) 6277101735386680763835789423207666416102355444464034512896
def pset (n t x : Nat) : Nat := Nat.xor n (Nat.shiftLeft (Nat.xor (Nat.mod (Nat.shiftRight n (Nat.mul 192 t)) 6277101735386680763835789423207666416102355444464034512896) x) (Nat.mul 192 t))

theorem slot_bit (n t i : Nat) : (slot n t).testBit i = (decide (i < 192) && n.testBit (192 * t + i)) := by
  show ((n >>> (192 * t)) % 2 ^ 192).testBit i = _
  rw [Nat.testBit_mod_two_pow, Nat.testBit_shiftRight]
theorem slot_lt (n t : Nat) : slot n t < 2 ^ 192 := Nat.mod_lt _ (by decide)
theorem slot_pset {n t x : Nat} (hx : x < 2 ^ 192) (k : Nat) : slot (pset n t x) k = if k = t then x else slot n k := by
  apply Nat.eq_of_testBit_eq
  intro i
  have e : pset n t x = n ^^^ ((slot n t ^^^ x) <<< (192 * t)) := rfl
  rw [slot_bit, e, Nat.testBit_xor, Nat.testBit_shiftLeft, Nat.testBit_xor, slot_bit]
  by_cases hi : i < 192
  · by_cases hk : k = t
    · subst hk
      have : 192 * k + i - 192 * k = i := by omega
      simp [hi, this]
    · rw [if_neg hk, slot_bit]
      have hi' : decide (i < 192) = true := by simpa using hi
      rw [hi', Bool.true_and, Bool.true_and]
      by_cases hlt : k < t
      · have : ¬ (192 * k + i ≥ 192 * t) := by omega
        simp [this]
      · have h3 : ¬ (192 * k + i - 192 * t < 192) := by omega
        have h4 : x.testBit (192 * k + i - 192 * t) = false := Nat.testBit_lt_two_pow (Nat.lt_of_lt_of_le hx (Nat.pow_le_pow_right (by decide) (by omega)))
        simp [h3, h4]
  · have hi' : decide (i < 192) = false := by simpa using hi
    rw [hi', Bool.false_and]
    split
    · exact (Nat.testBit_lt_two_pow (Nat.lt_of_lt_of_le hx (Nat.pow_le_pow_right (by decide) (by omega)))).symm
    · rw [slot_bit, hi', Bool.false_and]

/-! a value as a number: its lowest 5 bits its kind: 0 nothing, 1 in the tree, 2 truth, 3 pointer, 4 .. 11 numbers, 12 .. 15 numbers below zero, 16 no pointer, 17 no slice, 18 and 19 slices, 20 no map, 21 a map, 22 no function, 23 no interface -/
def kof (g : Nat) : IntKind := cnd (Nat.beq g 7) .i64 (cnd (Nat.beq g 11) .u64 (cnd (Nat.beq g 8) .u8 (cnd (Nat.beq g 6) .i32 (cnd (Nat.beq g 10) .u32 (cnd (Nat.beq g 4) .i8 (cnd (Nat.beq g 5) .i16 .u16))))))
def nof (g : Nat) : IntKind := cnd (Nat.beq g 12) .i64 (cnd (Nat.beq g 13) .i32 (cnd (Nat.beq g 14) .i16 .i8))
def m32 (x : Nat) : Nat := Nat.mod x 4294967296
def d32 (x : Nat) : Nat := Nat.div x 4294967296
def dsl (p : Nat) (f : Nat → Option Nat) : AV :=
  .sl (m32 p) (m32 (d32 p)) (m32 (d32 (d32 p))) (f (d32 (Nat.div (d32 (d32 (d32 p))) 65536))) (Nat.mod (d32 (d32 (d32 p))) 65536) (m32 (Nat.div (d32 (d32 (d32 p))) 65536))
def dlo (g p : Nat) (bx : Option AV) : Option AV := cnd (Nat.ble g 1) (cnd (Nat.beq g 1) (cnd (Nat.beq p 0) bx none) none) (cnd (Nat.beq g 2) (some (.b (Nat.beq p 1))) (some (.p (m32 p) (d32 p))))
def dmi (g p : Nat) : Option AV := cnd (Nat.ble g 11) (some (.i (kof g) (.ofNat p))) (some (.i (nof g) (.negSucc p)))
def dhi (g p : Nat) : Option AV := cnd (Nat.ble g 19) (cnd (Nat.ble g 17) (cnd (Nat.beq g 16) (some .np) (some .nsl)) (cnd (Nat.beq g 18) (some (dsl p (fun _ => none))) (some (dsl p some)))) (cnd (Nat.ble g 21) (cnd (Nat.beq g 20) (some .nmp) (some (.mp p))) (cnd (Nat.beq g 22) (some .nfn) (cnd (Nat.beq g 23) (some .nifc) none)))
def decG (g p : Nat) (bx : Option AV) : Option AV := cnd (Nat.ble g 15) (cnd (Nat.ble g 3) (dlo g p bx) (dmi g p)) (dhi g p)
def dec (s : Nat) (bx : Option AV) : Option AV := decG (Nat.mod s 32) (Nat.div s 32) bx
def eget (e : Env) (t : Nat) : Option AV := dec (slot e.n t) (e.t.get t)
def tagd (g p : Nat) : Nat := Nat.add (Nat.mul 32 p) g
def encI : Int → IntKind → Nat :=
  Int.rec (motive := fun _ => IntKind → Nat) (fun a k => tagd (Nat.add 4 (kidx k)) a) (fun a k => IntKind.rec (motive := fun _ => Nat → Nat) (fun a => tagd 15 a) (fun a => tagd 14 a) (fun a => tagd 13 a) (fun a => tagd 12 a) (fun _ => 1) (fun _ => 1) (fun _ => 1) (fun _ => 1) k a)
def p32 (a b : Nat) : Nat := Nat.add a (Nat.mul 4294967296 b)
def psl (id off len es pre cap : Nat) : Nat := p32 id (p32 off (p32 len (Nat.add es (Nat.mul 65536 (p32 pre cap)))))
def okp (id off len es pre : Nat) : Bool := Nat.beq (Nat.add (Nat.add (d32 id) (d32 off)) (Nat.add (Nat.add (d32 len) (d32 pre)) (Nat.div es 65536))) 0
def enc : AV → Nat :=
  AV.rec (motive_1 := fun _ => Nat) (motive_2 := fun _ => Nat) (fun x => cnd x 34 2) (fun k n => encI n k) (fun _ _ => 1) (fun id off => cnd (Nat.beq (d32 id) 0) (tagd 3 (p32 id off)) 1) 16
    (fun id off len cap es pre => cnd (okp id off len es pre) (Option.rec (tagd 18 (psl id off len es pre 0)) (fun c => tagd 19 (psl id off len es pre c)) cap) 1) 17 (fun id => tagd 21 id) 20 (fun _ _ _ _ _ => 1) 22 (fun _ _ _ => 1) 23 (fun _ _ => 1) (fun _ _ => 1) (fun _ => 1) 1 (fun _ _ _ _ => 1)
def big : Nat := 6277101735386680763835789423207666416102355444464034512896
def ccap (c : Nat) : Nat := Bool.rec 1 c (Nat.ble c 6277101735386680763835789423207666416102355444464034512895)
/-- the tree takes 'x' at 't', if 'c' says that it does -/
def tcap (c : Nat) (x : Option AV) (U : T AV) (t : Nat) : T AV := Bool.rec U (U.put x t) (Nat.beq c 1)
def eput (e : Env) (t : Nat) (v : AV) : Env := ⟨pset e.n t (ccap (enc v)), tcap (ccap (enc v)) (some v) e.t t⟩
def enew : Env := ⟨0, full AV 5⟩

theorem mod_tagd {g : Nat} (hg : g < 32) (p : Nat) : Nat.mod (tagd g p) 32 = g := by show (32 * p + g) % 32 = g; omega
theorem div_tagd {g : Nat} (hg : g < 32) (p : Nat) : Nat.div (tagd g p) 32 = p := by show (32 * p + g) / 32 = p; omega
theorem dec_tagd {g : Nat} (hg : g < 32) (p : Nat) (bx : Option AV) : dec (tagd g p) bx = decG g p bx := by unfold dec; rw [mod_tagd hg, div_tagd hg]
theorem tagd_ne {g : Nat} (hg : g < 32) (h1 : g ≠ 1) (p : Nat) : tagd g p ≠ 1 := by show 32 * p + g ≠ 1; omega
theorem d32_zero {a : Nat} (h : d32 a = 0) : a < 4294967296 := by
  have h : a / 4294967296 = 0 := h
  omega
theorem m32_p32 {a : Nat} (h : d32 a = 0) (b : Nat) : m32 (p32 a b) = a := by
  have := d32_zero h
  show (a + 4294967296 * b) % 4294967296 = a; omega
theorem d32_p32 {a : Nat} (h : d32 a = 0) (b : Nat) : d32 (p32 a b) = b := by
  have := d32_zero h
  show (a + 4294967296 * b) / 4294967296 = b; omega
theorem dsl_psl {id off len es pre cap : Nat} (h : okp id off len es pre = true) (f : Nat → Option Nat) : dsl (psl id off len es pre cap) f = .sl id off len (f cap) es pre := by
  unfold okp at h
  rw [Nat.beq_eq] at h
  have h : (d32 id + d32 off) + ((d32 len + d32 pre) + es / 65536) = 0 := h
  have h1 : d32 id = 0 := by omega
  have h2 : d32 off = 0 := by omega
  have h3 : d32 len = 0 := by omega
  have h4 : d32 pre = 0 := by omega
  have h5 : es / 65536 = 0 := by omega
  have e1 : ∀ b, Nat.mod (Nat.add es (Nat.mul 65536 b)) 65536 = es := fun b => by show (es + 65536 * b) % 65536 = es; omega
  have e2 : ∀ b, Nat.div (Nat.add es (Nat.mul 65536 b)) 65536 = b := fun b => by show (es + 65536 * b) / 65536 = b; omega
  unfold dsl psl
  rw [m32_p32 h1, d32_p32 h1, m32_p32 h2, d32_p32 h2, m32_p32 h3, d32_p32 h3, e1, e2, m32_p32 h4, d32_p32 h4]
theorem dec_encI (k : IntKind) (n : Int) (bx : Option AV) : encI n k = 1 ∨ dec (encI n k) bx = some (.i k n) := by
  cases n with
  | ofNat a =>
    refine .inr ?_
    have e : encI (.ofNat a) k = tagd (Nat.add 4 (kidx k)) a := rfl
    rw [e, dec_tagd (by cases k <;> decide)]
    cases k <;> rfl
  | negSucc a =>
    cases k with
    | i8 => exact .inr (by show dec (tagd 15 a) bx = _; rw [dec_tagd (by decide)]; rfl)
    | i16 => exact .inr (by show dec (tagd 14 a) bx = _; rw [dec_tagd (by decide)]; rfl)
    | i32 => exact .inr (by show dec (tagd 13 a) bx = _; rw [dec_tagd (by decide)]; rfl)
    | i64 => exact .inr (by show dec (tagd 12 a) bx = _; rw [dec_tagd (by decide)]; rfl)
    | _ => exact .inl rfl
theorem dec_enc (v : AV) (bx : Option AV) : enc v = 1 ∨ dec (enc v) bx = some v := by
  cases v with
  | b x => exact .inr (by cases x <;> rfl)
  | i k n => exact dec_encI k n bx
  | p id off =>
    have e : enc (.p id off) = cnd (Nat.beq (d32 id) 0) (tagd 3 (p32 id off)) 1 := rfl
    rw [e, cnd_eq]
    split
    · rename_i h
      rw [Nat.beq_eq] at h
      refine .inr ?_
      rw [dec_tagd (by decide)]
      show some (AV.p (m32 (p32 id off)) (d32 (p32 id off))) = _
      rw [m32_p32 h, d32_p32 h]
    · exact .inl rfl
  | sl id off len cap es pre =>
    have e : enc (.sl id off len cap es pre) = cnd (okp id off len es pre) (Option.rec (tagd 18 (psl id off len es pre 0)) (fun c => tagd 19 (psl id off len es pre c)) cap) 1 := rfl
    rw [e, cnd_eq]
    split
    · rename_i h
      refine .inr ?_
      cases cap with
      | none =>
        show dec (tagd 18 (psl id off len es pre 0)) bx = _
        rw [dec_tagd (by decide)]
        show some (dsl _ _) = _
        rw [dsl_psl h]
      | some c =>
        show dec (tagd 19 (psl id off len es pre c)) bx = _
        rw [dec_tagd (by decide)]
        show some (dsl _ _) = _
        rw [dsl_psl h]
    · exact .inl rfl
  | mp id => exact .inr (by show dec (tagd 21 id) bx = _; rw [dec_tagd (by decide)]; rfl)
  | np => exact .inr rfl
  | nsl => exact .inr rfl
  | nmp => exact .inr rfl
  | nfn => exact .inr rfl
  | nifc => exact .inr rfl
  | s _ _ => exact .inl rfl
  | fn _ _ _ => exact .inl rfl
  | ifc _ _ => exact .inl rfl
  | ag _ => exact .inl rfl
  | tp _ => exact .inl rfl
  | v _ => exact .inl rfl
/-- a number that is no box says all -/
theorem dec_box {s : Nat} (bx bx' : Option AV) (h : s ≠ 1) : dec s bx = dec s bx' := by
  unfold dec decG dlo
  by_cases h1 : Nat.mod s 32 = 1
  · have h2 : Nat.div s 32 ≠ 0 := by
      intro h2
      have h1 : s % 32 = 1 := h1
      have h2 : s / 32 = 0 := h2
      omega
    rw [bqn h2]; rfl
  · rw [bqn h1]; rfl
theorem dec_one (bx : Option AV) : dec 1 bx = bx := rfl
theorem ccap_lt (c : Nat) : ccap c < 2 ^ 192 := by
  unfold ccap
  cases h : Nat.ble c 6277101735386680763835789423207666416102355444464034512895 with
  | true => rw [Nat.ble_eq] at h; exact Nat.lt_of_le_of_lt h (by decide)
  | false => show (1 : Nat) < 2 ^ 192; decide
theorem ccap_or (c : Nat) : ccap c = 1 ∨ ccap c = c := by
  unfold ccap
  cases h : Nat.ble c 6277101735386680763835789423207666416102355444464034512895 with
  | true => exact .inr rfl
  | false => exact .inl rfl
theorem tcap_one (x : Option AV) (U : T AV) (t : Nat) : tcap 1 x U t = U.put x t := rfl
theorem tcap_ne {c : Nat} (h : c ≠ 1) (x : Option AV) (U : T AV) (t : Nat) : tcap c x U t = U := by unfold tcap; rw [bqn h]
/-- a place takes a number, and the tree what belongs to it -/
theorem eget_place {n t : Nat} {U : T AV} {x : Option AV} {c k : Nat} {a : AV} (hc : c < 2 ^ 192) (h : eget ⟨pset n t c, tcap c x U t⟩ k = some a) : (k = t ∧ dec c x = some a) ∨ (k ≠ t ∧ eget ⟨n, U⟩ k = some a) := by
  unfold eget at h
  simp only at h
  rw [slot_pset hc] at h
  by_cases hk : k = t
  · subst hk
    rw [if_pos rfl] at h
    refine .inl ⟨rfl, ?_⟩
    by_cases h1 : c = 1
    · subst h1
      rw [dec_one, tcap_one] at h
      rcases T.put_self x U k with h2 | h2
      · rw [dec_one, ← h2]; exact h
      · rw [h2] at h; cases h
    · rw [tcap_ne h1] at h
      rw [dec_box x (U.get k) h1]; exact h
  · rw [if_neg hk] at h
    refine .inr ⟨hk, ?_⟩
    unfold eget
    by_cases h1 : c = 1
    · subst h1
      rw [tcap_one, T.get_put_ne _ _ _ _ hk] at h; exact h
    · rw [tcap_ne h1] at h; exact h
/-- a place takes a number that stands for a value -/
theorem eget_pset {n t : Nat} {U : T AV} {x : AV} {c k : Nat} {a : AV} (hc : c < 2 ^ 192) (hx : ∀ bx, dec c bx = some x) (h : eget ⟨pset n t c, U⟩ k = some a) : (k = t ∧ a = x) ∨ (k ≠ t ∧ eget ⟨n, U⟩ k = some a) := by
  unfold eget at h
  simp only at h
  rw [slot_pset hc] at h
  by_cases hk : k = t
  · rw [if_pos hk, hx] at h
    exact .inl ⟨hk, (Option.some.inj h).symm⟩
  · rw [if_neg hk] at h
    exact .inr ⟨hk, h⟩
theorem dec_ccap (v : AV) (bx : Option AV) : ccap (enc v) = 1 ∨ dec (ccap (enc v)) bx = some v := by
  rcases ccap_or (enc v) with h | h
  · exact .inl h
  · rw [h]; exact dec_enc v bx
theorem eget_eput {e : Env} {n k : Nat} {x a : AV} (h : eget (eput e n x) k = some a) : (k = n ∧ a = x) ∨ (k ≠ n ∧ eget e k = some a) := by
  rcases eget_place (ccap_lt _) h with ⟨h1, h2⟩ | h1
  · rcases dec_ccap x (some x) with h4 | h4
    · rw [h4, dec_one] at h2; exact .inl ⟨h1, (Option.some.inj h2).symm⟩
    · rw [h4] at h2; exact .inl ⟨h1, (Option.some.inj h2).symm⟩
  · exact .inr h1
theorem slot_zero (t : Nat) : slot 0 t = 0 := by
  show (0 >>> (192 * t)) % 2 ^ 192 = 0
  simp
theorem eget_new (k : Nat) : eget enew k = none := by
  unfold eget enew
  simp only
  rw [slot_zero]; rfl
end
end Am
