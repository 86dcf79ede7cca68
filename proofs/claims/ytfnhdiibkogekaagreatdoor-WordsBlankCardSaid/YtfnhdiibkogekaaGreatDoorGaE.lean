/- A machine for closed runs: one operation. No program in sight. -/
import Derived.Test.YtfnhdiibkogekaaGreatDoorGaD
set_option linter.unusedVariables false
set_option linter.unusedSimpArgs false
section
namespace Am
open Go
noncomputable section
variable {P : Program}

/-- what is read -/
def ard (P : Program) (lk : Lk) (ρ : Rho) (o : Op) : Option AV :=
  match aload P lk ρ o with
  | some v => some v
  | none => match o with
    | .convert s d x => match ρ x with
      | some a => abts P lk s d a
      | none => none
    | _ => none
theorem ard_ok {m : Map} {lk : Lk} {w : World} (hR : R lk m w) {ρ : Rho} {ev : Operand → Value} (hρ : RhoOk m ρ ev) {o : Oper} {r : AV} (h : ard P lk ρ o.op = some r) :
    ∃ z, cvo m r = some z ∧ (execOp ev o).run P w = .ok (.value z) w := by
  unfold ard at h
  split at h
  · rename_i v hv
    obtain rfl := Option.some.inj h
    exact aload_ok hR hρ hv
  · split at h
    · rename_i s d x ho
      split at h
      · rename_i a ha
        obtain ⟨z, h1, h2⟩ := abts_ok hR h (hρ _ _ ha)
        exact ⟨z, h1, by simp [execOp, ho, h2]⟩
      · cases h
    · cases h

def aclr (P : Program) (g : Nat) (S : St) (ts : List TypeId) (a : AV) : Option St :=
  match ts with
  | [] => none
  | t :: _ => match und P t, a with
    | some (.map _ _), .nmp => some S
    | some (.map _ _), .mp id => match S.h.get id with
      | some (.map _ ck) => bif Nat.ble g id then some ⟨S.h.put (some (.map [] ck)) id, S.nx⟩ else none
      | _ => none
    | _, _ => none
theorem aclr_ok {g : Nat} {m : Map} {S S' : St} {w : World} (hR : R S.lk m w) {ts : List TypeId} {a : AV} {av : Value} (h : aclr P g S ts a = some S') (ha : cvo m a = some av) (ty : TypeId) :
    ∃ w', (Builtin.clear_ ts.toArray ty #[av]).run P w = .ok (.tuple #[]) w' ∧ Step g m S.lk S.nx w m S'.lk S'.nx w' := by
  unfold aclr at h
  split at h
  · cases h
  rename_i t rest
  split at h
  · rename_i ht
    obtain rfl := Option.some.inj h
    simp only [cvo, Option.some.injEq] at ha; subst ha
    exact ⟨w, by simp [Builtin.clear_, run_und ht], Step.refl hR⟩
  · rename_i kt et id ht
    split at h
    · rename_i es ck hlk
      cases hb : Nat.ble g id with
      | false => rw [hb] at h; cases h
      | true =>
      rw [hb, cond_true] at h
      rw [Nat.ble_eq] at hb
      obtain rfl := Option.some.inj h
      obtain ⟨L, es', h1, h2, h3⟩ := hR.holds _ _ hlk
      simp only [cvo, h1, Option.map_some, Option.some.injEq] at ha
      subst ha
      refine ⟨_, ?_, map_put hR hb hlk h1 (es2' := #[]) .nil⟩
      simp [Builtin.clear_, run_und ht, MapKept.run_getObj_map h2, MapKept.run_setObj_map _ h2]
    · cases h
  · cases h
def abwr (P : Program) (g : Nat) (S : St) (b : Builtin) (ts : List TypeId) (as : List AV) : Option (AV × St) :=
  match b, as with
  | .append, [s, x] => aapp P g S ts s x
  | .copy, [d, s] => acpy P g S ts d s
  | .clear, [a] => match aclr P g S ts a with
    | some S' => some (.tp [], S')
    | none => none
  | .unsafeString, [a, l] => auns P g S ts a l
  | _, _ => none
def awr (P : Program) (g : Nat) (S : St) (ρ : Rho) : Op → Option (AV × St)
  | .store t x v => match ρ x, ρ v, szo P t with
    | some (.p id off), some a, some n => bif Nat.beq (len (cel a)) n then (match asto g S id off (cel a) with
      | some S' => some (.tp [], S')
      | none => none) else none
    | _, _, _ => none
  | .mapUpdate t a k v => match ρ a, ρ k, ρ v with
    | some a, some k, some v => match amup P g S t a k v with
      | some S' => some (.tp [], S')
      | none => none
    | _, _, _ => none
  | .insert t a k v => match ρ a, ρ k, ρ v with
    | some a, some k, some v => match amup P g S t a k v with
      | some S' => some (.tp [], S')
      | none => none
    | _, _, _ => none
  | .mapEntry t a k => match ρ a, ρ k with
    | some a, some k => amen P g S t a k
    | _, _ => none
  | .entryStore _ a s v => match ρ a, ρ s, ρ v with
    | some a, some s, some v => match aest g S a s v with
      | some S' => some (.tp [], S')
      | none => none
    | _, _, _ => none
  | .range t x => match ρ x with
    | some a => arng P g S t a
    | none => none
  | .next it s => bif s then (match ρ it with
    | some a => anxt g S a
    | none => none) else none
  | .convert s d x => match ρ x with
    | some a => astb P g S s d a
    | none => none
  | .call c => match c.callee with
    | .builtin b => match amap ρ c.args.toList with
      | some as => abwr P g S b c.argTypes.toList as
      | none => none
    | _ => none
  | _ => none
def Done (P : Program) (g : Nat) (m : Map) (S : St) (w : World) (S' : St) (r : AV) (res : Result Next) : Prop :=
  ∃ m' w' nx v, res = .ok nx w' ∧ (nx = .value v ∨ (nx = .skip ∧ v = undef)) ∧ cvo m' r = some v ∧ Step g m S.lk S.nx w m' S'.lk S'.nx w'
theorem undef_ok (m : Map) : cvo m (.tp []) = some undef := rfl
theorem awr_ok {g : Nat} {m : Map} {S S' : St} {w : World} (hR : R S.lk m w) (hf : Fre m S.nx S'.nx) {ρ : Rho} {ev : Operand → Value} (hρ : RhoOk m ρ ev) {o : Oper} {r : AV} (h : awr P g S ρ o.op = some (r, S')) :
    Done P g m S w S' r ((execOp ev o).run P w) := by
  obtain ⟨dst, op, type, pos, after, guard⟩ := o
  cases op <;> simp only [awr, reduceCtorEq] at h <;> simp only [execOp]
  case store t x v =>
    split at h
    · rename_i id off a n hx hv hn
      cases hb : Nat.beq (len (cel a)) n with
      | false => rw [hb] at h; cases h
      | true =>
      rw [hb, cond_true] at h
      rw [Nat.beq_eq, len_eq] at hb
      split at h
      · rename_i S1 hS1
        obtain ⟨rfl, rfl⟩ := Prod.mk.inj (Option.some.inj h)
        have hp := hρ _ _ hx
        have hc := cel_ok (hρ _ _ hv)
        simp only [cvo, Option.map_eq_some_iff] at hp
        obtain ⟨L, hL, hp⟩ := hp
        obtain ⟨w', q1, q2⟩ := asto_ok (P := P) hR hS1 hc hL
        refine ⟨m, w', .skip, undef, ?_, .inr ⟨rfl, rfl⟩, undef_ok m, q2⟩
        have hsz : (ev v).cells.size = n := by rw [← Array.length_toList, cvs_length hc, hb]
        rw [← hp]
        simp [Instr.storeAt, Instr.sureAddr, storeVar, run_szo hn, hsz, q1]
      · cases h
    · cases h
  case mapUpdate t a k v =>
    split at h
    · rename_i a' k' v' ha hk hv
      split at h
      · rename_i S1 hS1
        obtain ⟨rfl, rfl⟩ := Prod.mk.inj (Option.some.inj h)
        obtain ⟨w', q1, q2⟩ := amup_ok (P := P) hR hS1 (hρ _ _ ha) (hρ _ _ hk) (hρ _ _ hv)
        exact ⟨m, w', .skip, undef, by simp [q1], .inr ⟨rfl, rfl⟩, undef_ok m, q2⟩
      · cases h
    · cases h
  case insert t a k v =>
    split at h
    · rename_i a' k' v' ha hk hv
      split at h
      · rename_i S1 hS1
        obtain ⟨rfl, rfl⟩ := Prod.mk.inj (Option.some.inj h)
        obtain ⟨w', q1, q2⟩ := amup_ok (P := P) hR hS1 (hρ _ _ ha) (hρ _ _ hk) (hρ _ _ hv)
        exact ⟨m, w', .skip, undef, by simp [q1], .inr ⟨rfl, rfl⟩, undef_ok m, q2⟩
      · cases h
    · cases h
  case mapEntry t a k =>
    split at h
    · rename_i a' k' ha hk
      obtain ⟨w', v, q1, q2, q3⟩ := amen_ok (P := P) hR h (hρ _ _ ha) (hρ _ _ hk)
      exact ⟨m, w', .value v, v, by simp [q1], .inl rfl, q2, q3⟩
    · cases h
  case entryStore t a s v =>
    split at h
    · rename_i a' s' v' ha hs hv
      split at h
      · rename_i S1 hS1
        obtain ⟨rfl, rfl⟩ := Prod.mk.inj (Option.some.inj h)
        obtain ⟨w', q1, q2⟩ := aest_ok (P := P) (t := t) hR hS1 (hρ _ _ ha) (hρ _ _ hs) (hρ _ _ hv)
        exact ⟨m, w', .skip, undef, by simp [q1], .inr ⟨rfl, rfl⟩, undef_ok m, q2⟩
      · cases h
    · cases h
  case range t x =>
    split at h
    · rename_i a ha
      obtain ⟨m', w', v, q1, q2, q3⟩ := arng_ok (P := P) hR hf h (hρ _ _ ha)
      exact ⟨m', w', .value v, v, by simp [q1], .inl rfl, q2, q3⟩
    · cases h
  case next it s =>
    cases s with
    | false => cases h
    | true =>
    rw [cond_true] at h
    split at h
    · rename_i a ha
      obtain ⟨w', v, q1, q2, q3⟩ := anxt_ok (P := P) hR h (hρ _ _ ha) type
      exact ⟨m, w', .value v, v, by simp [q1], .inl rfl, q2, q3⟩
    · cases h
  case convert s d x =>
    split at h
    · rename_i a ha
      obtain ⟨m', w', v, q1, q2, q3⟩ := astb_ok (P := P) hR hf h (hρ _ _ ha)
      exact ⟨m', w', .value v, v, by simp [q1], .inl rfl, q2, q3⟩
    · cases h
  case call c =>
    split at h
    · rename_i b hb
      split at h
      · rename_i as has
        have hm := amap_ok hρ has
        have e : c.args.map ev = (c.args.toList.map ev).toArray := by apply Array.ext'; simp
        have ets : c.argTypes.toList.toArray = c.argTypes := by simp
        simp only [resolve, hb, Sem.run_bind, Sem.run_pure, Result.andThen_ok, invoke]
        rw [e]
        generalize c.args.toList.map ev = vs at hm
        generalize (c.args.map fun | .const _ => true | _ => false) = cs
        unfold abwr at h
        split at h
        · rename_i s x
          obtain ⟨sv, vs1, h1, h2, rfl⟩ := cvs_cons.1 hm
          obtain ⟨xv, vs2, h3, h4, rfl⟩ := cvs_cons.1 h2
          simp [cvs] at h4; subst h4
          obtain ⟨m', w', v, q1, q2, q3⟩ := aapp_ok (P := P) hR hf h h1 h3 type
          rw [ets] at q1
          exact ⟨m', w', .value v, v, by simp [builtin, q1], .inl rfl, q2, q3⟩
        · rename_i d s
          obtain ⟨dv, vs1, h1, h2, rfl⟩ := cvs_cons.1 hm
          obtain ⟨sv, vs2, h3, h4, rfl⟩ := cvs_cons.1 h2
          simp [cvs] at h4; subst h4
          obtain ⟨w', v, q1, q2, q3⟩ := acpy_ok (P := P) hR h h1 h3 type
          rw [ets] at q1
          exact ⟨m, w', .value v, v, by simp [builtin, q1], .inl rfl, q2, q3⟩
        · rename_i a
          obtain ⟨av, vs1, h1, h2, rfl⟩ := cvs_cons.1 hm
          simp [cvs] at h2; subst h2
          split at h
          · rename_i S1 hS1
            obtain ⟨rfl, rfl⟩ := Prod.mk.inj (Option.some.inj h)
            obtain ⟨w', q1, q2⟩ := aclr_ok (P := P) hR hS1 h1 type
            rw [ets] at q1
            exact ⟨m, w', .value undef, undef, by simp [builtin, q1]; rfl, .inl rfl, undef_ok m, q2⟩
          · cases h
        · rename_i a l
          obtain ⟨av, vs1, h1, h2, rfl⟩ := cvs_cons.1 hm
          obtain ⟨lv, vs2, h3, h4, rfl⟩ := cvs_cons.1 h2
          simp [cvs] at h4; subst h4
          obtain ⟨w', v, q1, q2, q3⟩ := auns_ok (P := P) hR h h1 h3 type
          rw [ets] at q1
          exact ⟨m, w', .value v, v, by simp [builtin, q1], .inl rfl, q2, q3⟩
        · cases h
      · cases h
    · cases h
end
end Am
end
section
namespace Am
open Go
noncomputable section

/-- packed: 192 bits a place. A text, a struct, a tuple and a function lie in 't' -/
structure Env where
  n : Nat
  t : T AV
def cnd {α : Type} (b : Bool) (x y : α) : α := Bool.rec y x b
theorem cnd_eq {α : Type} (b : Bool) (x y : α) : cnd b x y = if b then x else y := by cases b <;> rfl
def slot (n t : Nat) : Nat := Nat.mod (Nat.shiftRight n (Nat.mul 192 t)) 6277101735386680763835789423207666416102355444464034512896
def pset (n t x : Nat) : Nat := Nat.xor n (Nat.shiftLeft (Nat.xor (Nat.mod (Nat.shiftRight n (Nat.mul 192 t)) 6277101735386680763835789423207666416102355444464034512896) x) (Nat.mul 192 t))

theorem slot_bit (n t i : Nat) : (slot n t).testBit i = (decide (i < 192) && n.testBit (192 * t + i)) := by
  show ((n >>> (192 * t)) % 2 ^ 192).testBit i = _
  rw [Nat.testBit_mod_two_pow, Nat.testBit_shiftRight]
theorem slot_lt (n t : Nat) : slot n t < 2 ^ 192 := Nat.mod_lt _ (by decide)
theorem slot_pset {n t x : Nat} (hx : x < 2 ^ 192) (k : Nat) : slot (pset n t x) k = if k = t then x else slot n k := by
  apply Nat.eq_of_testBit_eq
  intro i
  have e : pset n t x = n ^^^ ((slot n t ^^^ x) <<< (192 * t)) := rfl
  rw [slot_bit, e, Nat.testBit_xor, Nat.testBit_shiftLeft, Nat.testBit_xor, slot_bit]
  by_cases hi : i < 192
  · by_cases hk : k = t
    · subst hk
      have : 192 * k + i - 192 * k = i := by omega
      simp [hi, this]
    · rw [if_neg hk, slot_bit]
      have hi' : decide (i < 192) = true := by simpa using hi
      rw [hi', Bool.true_and, Bool.true_and]
      by_cases hlt : k < t
      · have : ¬ (192 * k + i ≥ 192 * t) := by omega
        simp [this]
      · have h3 : ¬ (192 * k + i - 192 * t < 192) := by omega
        have h4 : x.testBit (192 * k + i - 192 * t) = false := Nat.testBit_lt_two_pow (Nat.lt_of_lt_of_le hx (Nat.pow_le_pow_right (by decide) (by omega)))
        simp [h3, h4]
  · have hi' : decide (i < 192) = false := by simpa using hi
    rw [hi', Bool.false_and]
    split
    · exact (Nat.testBit_lt_two_pow (Nat.lt_of_lt_of_le hx (Nat.pow_le_pow_right (by decide) (by omega)))).symm
    · rw [slot_bit, hi', Bool.false_and]

/-! a value as a number: its lowest 5 bits its kind: 0 nothing, 1 in the tree, 2 truth, 3 pointer, 4 .. 11 numbers, 12 .. 15 numbers below zero, 16 no pointer, 17 no slice, 18 and 19 slices, 20 no map, 21 a map, 22 no function, 23 no interface -/
def kof (g : Nat) : IntKind := cnd (Nat.beq g 7) .i64 (cnd (Nat.beq g 11) .u64 (cnd (Nat.beq g 8) .u8 (cnd (Nat.beq g 6) .i32 (cnd (Nat.beq g 10) .u32 (cnd (Nat.beq g 4) .i8 (cnd (Nat.beq g 5) .i16 .u16))))))
def nof (g : Nat) : IntKind := cnd (Nat.beq g 12) .i64 (cnd (Nat.beq g 13) .i32 (cnd (Nat.beq g 14) .i16 .i8))
def m32 (x : Nat) : Nat := Nat.mod x 4294967296
def d32 (x : Nat) : Nat := Nat.div x 4294967296
def dsl (p : Nat) (f : Nat → Option Nat) : AV :=
  .sl (m32 p) (m32 (d32 p)) (m32 (d32 (d32 p))) (f (d32 (Nat.div (d32 (d32 (d32 p))) 65536))) (Nat.mod (d32 (d32 (d32 p))) 65536) (m32 (Nat.div (d32 (d32 (d32 p))) 65536))
def dlo (g p : Nat) (bx : Option AV) : Option AV := cnd (Nat.ble g 1) (cnd (Nat.beq g 1) (cnd (Nat.beq p 0) bx none) none) (cnd (Nat.beq g 2) (some (.b (Nat.beq p 1))) (some (.p (m32 p) (d32 p))))
def dmi (g p : Nat) : Option AV := cnd (Nat.ble g 11) (some (.i (kof g) (.ofNat p))) (some (.i (nof g) (.negSucc p)))
def dhi (g p : Nat) : Option AV := cnd (Nat.ble g 19) (cnd (Nat.ble g 17) (cnd (Nat.beq g 16) (some .np) (some .nsl)) (cnd (Nat.beq g 18) (some (dsl p (fun _ => none))) (some (dsl p some)))) (cnd (Nat.ble g 21) (cnd (Nat.beq g 20) (some .nmp) (some (.mp p))) (cnd (Nat.beq g 22) (some .nfn) (cnd (Nat.beq g 23) (some .nifc) none)))
def decG (g p : Nat) (bx : Option AV) : Option AV := cnd (Nat.ble g 15) (cnd (Nat.ble g 3) (dlo g p bx) (dmi g p)) (dhi g p)
def dec (s : Nat) (bx : Option AV) : Option AV := decG (Nat.mod s 32) (Nat.div s 32) bx
def eget (e : Env) (t : Nat) : Option AV := dec (slot e.n t) (e.t.get t)
def tagd (g p : Nat) : Nat := Nat.add (Nat.mul 32 p) g
def encI : Int → IntKind → Nat :=
  Int.rec (motive := fun _ => IntKind → Nat) (fun a k => tagd (Nat.add 4 (kidx k)) a) (fun a k => IntKind.rec (motive := fun _ => Nat → Nat) (fun a => tagd 15 a) (fun a => tagd 14 a) (fun a => tagd 13 a) (fun a => tagd 12 a) (fun _ => 1) (fun _ => 1) (fun _ => 1) (fun _ => 1) k a)
def p32 (a b : Nat) : Nat := Nat.add a (Nat.mul 4294967296 b)
def psl (id off len es pre cap : Nat) : Nat := p32 id (p32 off (p32 len (Nat.add es (Nat.mul 65536 (p32 pre cap)))))
def okp (id off len es pre : Nat) : Bool := Nat.beq (Nat.add (Nat.add (d32 id) (d32 off)) (Nat.add (Nat.add (d32 len) (d32 pre)) (Nat.div es 65536))) 0
def enc : AV → Nat :=
  AV.rec (motive_1 := fun _ => Nat) (motive_2 := fun _ => Nat) (fun x => cnd x 34 2) (fun k n => encI n k) (fun _ _ => 1) (fun id off => cnd (Nat.beq (d32 id) 0) (tagd 3 (p32 id off)) 1) 16
    (fun id off len cap es pre => cnd (okp id off len es pre) (Option.rec (tagd 18 (psl id off len es pre 0)) (fun c => tagd 19 (psl id off len es pre c)) cap) 1) 17 (fun id => tagd 21 id) 20 (fun _ _ _ _ _ => 1) 22 (fun _ _ _ => 1) 23 (fun _ _ => 1) (fun _ _ => 1) (fun _ => 1) 1 (fun _ _ _ _ => 1)
def big : Nat := 6277101735386680763835789423207666416102355444464034512896
def ccap (c : Nat) : Nat := Bool.rec 1 c (Nat.ble c 6277101735386680763835789423207666416102355444464034512895)
/-- the tree takes 'x' at 't', if 'c' says that it does -/
def tcap (c : Nat) (x : Option AV) (U : T AV) (t : Nat) : T AV := Bool.rec U (U.put x t) (Nat.beq c 1)
def eput (e : Env) (t : Nat) (v : AV) : Env := ⟨pset e.n t (ccap (enc v)), tcap (ccap (enc v)) (some v) e.t t⟩
def enew : Env := ⟨0, full AV 5⟩

theorem mod_tagd {g : Nat} (hg : g < 32) (p : Nat) : Nat.mod (tagd g p) 32 = g := by show (32 * p + g) % 32 = g; omega
theorem div_tagd {g : Nat} (hg : g < 32) (p : Nat) : Nat.div (tagd g p) 32 = p := by show (32 * p + g) / 32 = p; omega
theorem dec_tagd {g : Nat} (hg : g < 32) (p : Nat) (bx : Option AV) : dec (tagd g p) bx = decG g p bx := by unfold dec; rw [mod_tagd hg, div_tagd hg]
theorem tagd_ne {g : Nat} (hg : g < 32) (h1 : g ≠ 1) (p : Nat) : tagd g p ≠ 1 := by show 32 * p + g ≠ 1; omega
theorem d32_zero {a : Nat} (h : d32 a = 0) : a < 4294967296 := by
  have h : a / 4294967296 = 0 := h
  omega
theorem m32_p32 {a : Nat} (h : d32 a = 0) (b : Nat) : m32 (p32 a b) = a := by
  have := d32_zero h
  show (a + 4294967296 * b) % 4294967296 = a; omega
theorem d32_p32 {a : Nat} (h : d32 a = 0) (b : Nat) : d32 (p32 a b) = b := by
  have := d32_zero h
  show (a + 4294967296 * b) / 4294967296 = b; omega
theorem dsl_psl {id off len es pre cap : Nat} (h : okp id off len es pre = true) (f : Nat → Option Nat) : dsl (psl id off len es pre cap) f = .sl id off len (f cap) es pre := by
  unfold okp at h
  rw [Nat.beq_eq] at h
  have h : (d32 id + d32 off) + ((d32 len + d32 pre) + es / 65536) = 0 := h
  have h1 : d32 id = 0 := by omega
  have h2 : d32 off = 0 := by omega
  have h3 : d32 len = 0 := by omega
  have h4 : d32 pre = 0 := by omega
  have h5 : es / 65536 = 0 := by omega
  have e1 : ∀ b, Nat.mod (Nat.add es (Nat.mul 65536 b)) 65536 = es := fun b => by show (es + 65536 * b) % 65536 = es; omega
  have e2 : ∀ b, Nat.div (Nat.add es (Nat.mul 65536 b)) 65536 = b := fun b => by show (es + 65536 * b) / 65536 = b; omega
  unfold dsl psl
  rw [m32_p32 h1, d32_p32 h1, m32_p32 h2, d32_p32 h2, m32_p32 h3, d32_p32 h3, e1, e2, m32_p32 h4, d32_p32 h4]
theorem dec_encI (k : IntKind) (n : Int) (bx : Option AV) : encI n k = 1 ∨ dec (encI n k) bx = some (.i k n) := by
  cases n with
  | ofNat a =>
    refine .inr ?_
    have e : encI (.ofNat a) k = tagd (Nat.add 4 (kidx k)) a := rfl
    rw [e, dec_tagd (by cases k <;> decide)]
    cases k <;> rfl
  | negSucc a =>
    cases k with
    | i8 => exact .inr (by show dec (tagd 15 a) bx = _; rw [dec_tagd (by decide)]; rfl)
    | i16 => exact .inr (by show dec (tagd 14 a) bx = _; rw [dec_tagd (by decide)]; rfl)
    | i32 => exact .inr (by show dec (tagd 13 a) bx = _; rw [dec_tagd (by decide)]; rfl)
    | i64 => exact .inr (by show dec (tagd 12 a) bx = _; rw [dec_tagd (by decide)]; rfl)
    | _ => exact .inl rfl
theorem dec_enc (v : AV) (bx : Option AV) : enc v = 1 ∨ dec (enc v) bx = some v := by
  cases v with
  | b x => exact .inr (by cases x <;> rfl)
  | i k n => exact dec_encI k n bx
  | p id off =>
    have e : enc (.p id off) = cnd (Nat.beq (d32 id) 0) (tagd 3 (p32 id off)) 1 := rfl
    rw [e, cnd_eq]
    split
    · rename_i h
      rw [Nat.beq_eq] at h
      refine .inr ?_
      rw [dec_tagd (by decide)]
      show some (AV.p (m32 (p32 id off)) (d32 (p32 id off))) = _
      rw [m32_p32 h, d32_p32 h]
    · exact .inl rfl
  | sl id off len cap es pre =>
    have e : enc (.sl id off len cap es pre) = cnd (okp id off len es pre) (Option.rec (tagd 18 (psl id off len es pre 0)) (fun c => tagd 19 (psl id off len es pre c)) cap) 1 := rfl
    rw [e, cnd_eq]
    split
    · rename_i h
      refine .inr ?_
      cases cap with
      | none =>
        show dec (tagd 18 (psl id off len es pre 0)) bx = _
        rw [dec_tagd (by decide)]
        show some (dsl _ _) = _
        rw [dsl_psl h]
      | some c =>
        show dec (tagd 19 (psl id off len es pre c)) bx = _
        rw [dec_tagd (by decide)]
        show some (dsl _ _) = _
        rw [dsl_psl h]
    · exact .inl rfl
  | mp id => exact .inr (by show dec (tagd 21 id) bx = _; rw [dec_tagd (by decide)]; rfl)
  | np => exact .inr rfl
  | nsl => exact .inr rfl
  | nmp => exact .inr rfl
  | nfn => exact .inr rfl
  | nifc => exact .inr rfl
  | s _ _ => exact .inl rfl
  | fn _ _ _ => exact .inl rfl
  | ifc _ _ => exact .inl rfl
  | ag _ => exact .inl rfl
  | tp _ => exact .inl rfl
  | v _ => exact .inl rfl
/-- a number that is no box says all -/
theorem dec_box {s : Nat} (bx bx' : Option AV) (h : s ≠ 1) : dec s bx = dec s bx' := by
  unfold dec decG dlo
  by_cases h1 : Nat.mod s 32 = 1
  · have h2 : Nat.div s 32 ≠ 0 := by
      intro h2
      have h1 : s % 32 = 1 := h1
      have h2 : s / 32 = 0 := h2
      omega
    rw [bqn h2]; rfl
  · rw [bqn h1]; rfl
theorem dec_one (bx : Option AV) : dec 1 bx = bx := rfl
theorem ccap_lt (c : Nat) : ccap c < 2 ^ 192 := by
  unfold ccap
  cases h : Nat.ble c 6277101735386680763835789423207666416102355444464034512895 with
  | true => rw [Nat.ble_eq] at h; exact Nat.lt_of_le_of_lt h (by decide)
  | false => show (1 : Nat) < 2 ^ 192; decide
theorem ccap_or (c : Nat) : ccap c = 1 ∨ ccap c = c := by
  unfold ccap
  cases h : Nat.ble c 6277101735386680763835789423207666416102355444464034512895 with
  | true => exact .inr rfl
  | false => exact .inl rfl
theorem tcap_one (x : Option AV) (U : T AV) (t : Nat) : tcap 1 x U t = U.put x t := rfl
theorem tcap_ne {c : Nat} (h : c ≠ 1) (x : Option AV) (U : T AV) (t : Nat) : tcap c x U t = U := by unfold tcap; rw [bqn h]
/-- a place takes a number, and the tree what belongs to it -/
theorem eget_place {n t : Nat} {U : T AV} {x : Option AV} {c k : Nat} {a : AV} (hc : c < 2 ^ 192) (h : eget ⟨pset n t c, tcap c x U t⟩ k = some a) : (k = t ∧ dec c x = some a) ∨ (k ≠ t ∧ eget ⟨n, U⟩ k = some a) := by
  unfold eget at h
  simp only at h
  rw [slot_pset hc] at h
  by_cases hk : k = t
  · subst hk
    rw [if_pos rfl] at h
    refine .inl ⟨rfl, ?_⟩
    by_cases h1 : c = 1
    · subst h1
      rw [dec_one, tcap_one] at h
      rcases T.put_self x U k with h2 | h2
      · rw [dec_one, ← h2]; exact h
      · rw [h2] at h; cases h
    · rw [tcap_ne h1] at h
      rw [dec_box x (U.get k) h1]; exact h
  · rw [if_neg hk] at h
    refine .inr ⟨hk, ?_⟩
    unfold eget
    by_cases h1 : c = 1
    · subst h1
      rw [tcap_one, T.get_put_ne _ _ _ _ hk] at h; exact h
    · rw [tcap_ne h1] at h; exact h
/-- a place takes a number that stands for a value -/
theorem eget_pset {n t : Nat} {U : T AV} {x : AV} {c k : Nat} {a : AV} (hc : c < 2 ^ 192) (hx : ∀ bx, dec c bx = some x) (h : eget ⟨pset n t c, U⟩ k = some a) : (k = t ∧ a = x) ∨ (k ≠ t ∧ eget ⟨n, U⟩ k = some a) := by
  unfold eget at h
  simp only at h
  rw [slot_pset hc] at h
  by_cases hk : k = t
  · rw [if_pos hk, hx] at h
    exact .inl ⟨hk, (Option.some.inj h).symm⟩
  · rw [if_neg hk] at h
    exact .inr ⟨hk, h⟩
theorem dec_ccap (v : AV) (bx : Option AV) : ccap (enc v) = 1 ∨ dec (ccap (enc v)) bx = some v := by
  rcases ccap_or (enc v) with h | h
  · exact .inl h
  · rw [h]; exact dec_enc v bx
theorem eget_eput {e : Env} {n k : Nat} {x a : AV} (h : eget (eput e n x) k = some a) : (k = n ∧ a = x) ∨ (k ≠ n ∧ eget e k = some a) := by
  rcases eget_place (ccap_lt _) h with ⟨h1, h2⟩ | h1
  · rcases dec_ccap x (some x) with h4 | h4
    · rw [h4, dec_one] at h2; exact .inl ⟨h1, (Option.some.inj h2).symm⟩
    · rw [h4] at h2; exact .inl ⟨h1, (Option.some.inj h2).symm⟩
  · exact .inr h1
theorem slot_zero (t : Nat) : slot 0 t = 0 := by
  show (0 >>> (192 * t)) % 2 ^ 192 = 0
  simp
theorem eget_new (k : Nat) : eget enew k = none := by
  unfold eget enew
  simp only
  rw [slot_zero]; rfl
end
end Am
end
section
namespace Am
open Go
noncomputable section

def iop (f : Nat → Nat → IntKind → Int → Int → Int) (g : IntKind → Int → Int → Int) (k : IntKind) (x y : Int) : Int :=
  Int.rec (motive := fun _ => (Nat → Nat → IntKind → Int → Int → Int) → (IntKind → Int → Int → Int) → IntKind → Int → Int → Int)
    (fun a f g k x y => Int.rec (motive := fun _ => Nat → (Nat → Nat → IntKind → Int → Int → Int) → (IntKind → Int → Int → Int) → IntKind → Int → Int → Int) (fun b a f _ k x y => f a b k x y) (fun _ _ _ g k x y => g k x y) y a f g k x y) (fun _ _ g k x y => g k x y) x f g k x y
def addG (k : IntKind) (x y : Int) : Int := iwrap k (x + y)
def subG (k : IntKind) (x y : Int) : Int := iwrap k (x - y)
def mulG (k : IntKind) (x y : Int) : Int := iwrap k (x * y)
def quoG (k : IntKind) (x y : Int) : Int := iwrap k (x.tdiv y)
def remG (k : IntKind) (x y : Int) : Int := x.tmod y
def uwrap : IntKind → Nat → Int :=
  IntKind.rec (motive := fun _ => Nat → Int) (fun n => IntKind.i8.wrap (.ofNat n)) (fun n => IntKind.i16.wrap (.ofNat n)) (fun n => IntKind.i32.wrap (.ofNat n)) (fun n => IntKind.i64.wrap (.ofNat n))
    (fun n => .ofNat (Nat.mod n 256)) (fun n => .ofNat (Nat.mod n 65536)) (fun n => .ofNat (Nat.mod n 4294967296)) (fun n => .ofNat (Nat.mod n 18446744073709551616))
theorem uwrap_eq (k : IntKind) (n : Nat) : uwrap k n = k.wrap (.ofNat n) := by
  cases k <;> rfl
def small (k : IntKind) (n : Nat) : Int := cnd (Nat.blt n (klim k)) (.ofNat n) (uwrap k n)
theorem small_eq (k : IntKind) (n : Nat) : small k n = iwrap k (.ofNat n) := by
  rw [small, cnd_eq]
  cases hb : Nat.blt n (klim k) with
  | false => rw [iwrap_eq, ← uwrap_eq]; rfl
  | true => simp [iwrap, hb]
def qwrap (k : IntKind) (n : Int) : Int := Int.rec (motive := fun _ => IntKind → Int) (fun a k => small k a) (fun a k => k.wrap (.negSucc a)) n k
theorem qwrap_eq (k : IntKind) (n : Int) : qwrap k n = iwrap k n := by
  cases n with
  | ofNat a => exact small_eq k a
  | negSucc a => rfl
def addN (a b : Nat) (k : IntKind) (x y : Int) : Int := small k (Nat.add a b)
def subN (a b : Nat) (k : IntKind) (x y : Int) : Int := cnd (Nat.ble b a) (small k (Nat.sub a b)) (subG k x y)
def mulN (a b : Nat) (k : IntKind) (x y : Int) : Int := small k (Nat.mul a b)
def quoN (a b : Nat) (k : IntKind) (x y : Int) : Int := small k (Nat.div a b)
def remN (a b : Nat) (k : IntKind) (x y : Int) : Int := .ofNat (Nat.mod a b)
def qadd (k : IntKind) (x y : Int) : Int := iop addN addG k x y
def qsub (k : IntKind) (x y : Int) : Int := iop subN subG k x y
def qmul (k : IntKind) (x y : Int) : Int := iop mulN mulG k x y
def qquo (k : IntKind) (x y : Int) : Int := iop quoN quoG k x y
def qrem (k : IntKind) (x y : Int) : Int := iop remN remG k x y
def qlt (x y : Int) : Bool := Int.rec (motive := fun _ => Int → Bool) (fun a y => Int.rec (motive := fun _ => Nat → Bool) (fun b a => Nat.blt a b) (fun _ _ => false) y a) (fun a y => Int.rec (motive := fun _ => Nat → Bool) (fun _ _ => true) (fun b a => Nat.blt b a) y a) x y
def qeq (x y : Int) : Bool := Int.rec (motive := fun _ => Int → Bool) (fun a y => Int.rec (motive := fun _ => Nat → Bool) (fun b a => Nat.beq a b) (fun _ _ => false) y a) (fun a y => Int.rec (motive := fun _ => Nat → Bool) (fun _ _ => false) (fun b a => Nat.beq a b) y a) x y
def qnot (b : Bool) : Bool := Bool.rec true false b
theorem qadd_eq (k : IntKind) (x y : Int) : qadd k x y = iwrap k (x + y) := by
  cases x <;> cases y <;> try rfl
  exact small_eq _ _
theorem qsub_eq (k : IntKind) (x y : Int) : qsub k x y = iwrap k (x - y) := by
  cases x <;> cases y <;> try rfl
  rename_i a b
  show cnd (Nat.ble b a) (small k (Nat.sub a b)) (subG k (.ofNat a) (.ofNat b)) = _
  rw [cnd_eq]
  split
  · rename_i hb
    rw [Nat.ble_eq] at hb
    rw [small_eq]
    have : (Int.ofNat a - Int.ofNat b) = Int.ofNat (Nat.sub a b) := by
      show (Int.ofNat a - Int.ofNat b) = Int.ofNat (a - b)
      simp only [Int.ofNat_eq_natCast]; omega
    rw [this]
  · rfl
theorem qmul_eq (k : IntKind) (x y : Int) : qmul k x y = iwrap k (x * y) := by
  cases x <;> cases y <;> try rfl
  exact small_eq _ _
theorem qquo_eq (k : IntKind) (x y : Int) : qquo k x y = iwrap k (x.tdiv y) := by
  cases x <;> cases y <;> try rfl
  exact small_eq _ _
theorem qrem_eq (k : IntKind) (x y : Int) : qrem k x y = x.tmod y := by cases x <;> cases y <;> rfl
theorem qlt_eq (x y : Int) : qlt x y = ilt x y := by cases x <;> cases y <;> rfl
theorem qeq_eq (x y : Int) : qeq x y = ieq x y := by cases x <;> cases y <;> rfl
theorem qnot_eq (b : Bool) : qnot b = !b := by cases b <;> rfl
theorem cnd_bif {α : Type} (b : Bool) (x y : α) : cnd b x y = bif b then x else y := by cases b <;> rfl
def nsh (k : IntKind) (n : Nat) : Nat := cnd (Nat.ble n k.bits) n k.bits
theorem nsh_eq (k : IntKind) (n : Nat) : nsh k n = min n k.bits := by
  rw [nsh, cnd_eq]
  by_cases h : n ≤ k.bits
  · rw [if_pos (by rw [Nat.ble_eq]; exact h), Nat.min_eq_left h]
  · rw [if_neg (by rw [Nat.ble_eq]; exact h), Nat.min_eq_right (by omega)]
def qshl (k : IntKind) (x y : Int) : Option AV :=
  Int.rec (motive := fun _ => Int → IntKind → Option AV) (fun a y k => Int.rec (motive := fun _ => Nat → IntKind → Option AV) (fun n a k => some (.i k (small k (Nat.mul a (Nat.pow 2 (nsh k n)))))) (fun _ _ _ => none) y a k) (fun a y k => ishf .shl k (.negSucc a) y) x y k
def qshr (k : IntKind) (x y : Int) : Option AV :=
  Int.rec (motive := fun _ => Int → IntKind → Option AV) (fun a y k => Int.rec (motive := fun _ => Nat → IntKind → Option AV) (fun n a k => some (.i k (.ofNat (Nat.div a (Nat.pow 2 (nsh k n)))))) (fun _ _ _ => none) y a k) (fun a y k => ishf .shr k (.negSucc a) y) x y k
theorem qshl_eq (k : IntKind) (x y : Int) : qshl k x y = ishf .shl k x y := by
  cases x with
  | negSucc a => rfl
  | ofNat a => cases y with
    | negSucc n => rfl
    | ofNat n =>
      show some (AV.i k (small k (a * 2 ^ nsh k n))) = some (AV.i k (iwrap k (Int.ofNat a * ((2 ^ (min n k.bits) : Nat) : Int))))
      rw [small_eq, nsh_eq]; rfl
theorem qshr_eq (k : IntKind) (x y : Int) : qshr k x y = ishf .shr k x y := by
  cases x with
  | negSucc a => rfl
  | ofNat a => cases y with
    | negSucc n => rfl
    | ofNat n =>
      show some (AV.i k (Int.ofNat (a / 2 ^ nsh k n))) = some (AV.i k ((Int.ofNat a).fdiv ((2 ^ (min n k.bits) : Nat) : Int)))
      rw [nsh_eq]
      have := Int.ofNat_fdiv a (2 ^ (min n k.bits))
      simp only [Int.ofNat_eq_natCast] at this ⊢
      rw [this]
/-- two whole numbers -/
def ikq : BinOp → IntKind → IntKind → Int → Int → Option AV :=
  BinOp.rec (motive := fun _ => IntKind → IntKind → Int → Int → Option AV)
    (fun k k' x y => cnd (keq k k') (some (.i k (qadd k x y))) none) (fun k k' x y => cnd (keq k k') (some (.i k (qsub k x y))) none) (fun k k' x y => cnd (keq k k') (some (.i k (qmul k x y))) none)
    (fun k k' x y => cnd (keq k k') (cnd (qeq y (.ofNat 0)) none (some (.i k (qquo k x y)))) none) (fun k k' x y => cnd (keq k k') (cnd (qeq y (.ofNat 0)) none (some (.i k (qrem k x y)))) none)
    (fun k k' x y => cnd (keq k k') (ikin .and k x y) none) (fun k k' x y => cnd (keq k k') (ikin .or k x y) none) (fun k k' x y => cnd (keq k k') (ikin .xor k x y) none) (fun k _ x y => qshl k x y) (fun k _ x y => qshr k x y) (fun _ _ _ _ => none)
    (fun k k' x y => cnd (keq k k') (some (.b (qeq x y))) none) (fun k k' x y => cnd (keq k k') (some (.b (qnot (qeq x y)))) none) (fun k k' x y => cnd (keq k k') (some (.b (qlt x y))) none)
    (fun k k' x y => cnd (keq k k') (some (.b (qnot (qlt y x)))) none) (fun k k' x y => cnd (keq k k') (some (.b (qlt y x))) none) (fun k k' x y => cnd (keq k k') (some (.b (qnot (qlt x y)))) none)
theorem ikq_ok {P : Program} {op : BinOp} {t : TypeId} {xo yo : Operand} {k k' : IntKind} {x y : Int} {r : AV} (h : ikq op k k' x y = some r) : abin P op t xo yo (.i k x) (.i k' y) = some r := by
  cases op
  case shl => exact (qshl_eq k x y).symm.trans h
  case shr => exact (qshr_eq k x y).symm.trans h
  all_goals first | exact h | (cases h; done) | skip
  all_goals
    simp only [ikq, cnd_bif, qadd_eq, qsub_eq, qmul_eq, qquo_eq, qrem_eq, qlt_eq, qeq_eq, qnot_eq] at h
    simp only [abin, ikin]
    exact h
/-- 'f' of what is an int, 'g' of what is none -/
def aoi (f : IntKind → Int → Option AV) (g : Option AV) (v : AV) : Option AV :=
  AV.rec (motive_1 := fun _ => (IntKind → Int → Option AV) → Option AV → Option AV) (motive_2 := fun _ => Unit) (fun _ _ g => g) (fun k n f _ => f k n) (fun _ _ _ g => g) (fun _ _ _ g => g) (fun _ g => g) (fun _ _ _ _ _ _ _ g => g) (fun _ g => g) (fun _ _ g => g) (fun _ g => g) (fun _ _ _ _ _ _ g => g) (fun _ g => g) (fun _ _ _ _ g => g) (fun _ g => g) (fun _ _ _ g => g) (fun _ _ _ g => g) (fun _ _ g => g) ⟨⟩ (fun _ _ _ _ => ⟨⟩) v f g
def aop_ (f : Nat → Nat → Option AV) (g : Option AV) (v : AV) : Option AV :=
  AV.rec (motive_1 := fun _ => (Nat → Nat → Option AV) → Option AV → Option AV) (motive_2 := fun _ => Unit) (fun _ _ g => g) (fun _ _ _ g => g) (fun _ _ _ g => g) (fun i o f _ => f i o) (fun _ g => g) (fun _ _ _ _ _ _ _ g => g) (fun _ g => g) (fun _ _ g => g) (fun _ g => g) (fun _ _ _ _ _ _ g => g) (fun _ g => g) (fun _ _ _ _ g => g) (fun _ g => g) (fun _ _ _ g => g) (fun _ _ _ g => g) (fun _ _ g => g) ⟨⟩ (fun _ _ _ _ => ⟨⟩) v f g
def aob (a b : Option AV) (v : AV) : Option AV :=
  AV.rec (motive_1 := fun _ => Option AV → Option AV → Option AV) (motive_2 := fun _ => Unit) (fun x a b => cnd x a b) (fun _ _ _ _ => none) (fun _ _ _ _ => none) (fun _ _ _ _ => none) (fun _ _ => none) (fun _ _ _ _ _ _ _ _ => none) (fun _ _ => none) (fun _ _ _ => none) (fun _ _ => none) (fun _ _ _ _ _ _ _ => none) (fun _ _ => none) (fun _ _ _ _ _ => none) (fun _ _ => none) (fun _ _ _ _ => none) (fun _ _ _ _ => none) (fun _ _ _ => none) ⟨⟩ (fun _ _ _ _ => ⟨⟩) v a b
def aon (v : AV) : Option Nat :=
  AV.rec (motive_1 := fun _ => Option Nat) (motive_2 := fun _ => Unit) (fun _ => none) (fun _ n => Int.rec (motive := fun _ => Option Nat) (fun a => some a) (fun _ => none) n) (fun _ _ => none) (fun _ _ => none) none (fun _ _ _ _ _ _ => none) none (fun _ => none) none (fun _ _ _ _ _ => none) none (fun _ _ _ => none) none (fun _ _ => none) (fun _ _ => none) (fun _ => none) ⟨⟩ (fun _ _ _ _ => ⟨⟩) v
def abinq (P : Program) (op : BinOp) (t : TypeId) (xo yo : Operand) (a b : AV) : Option AV := aoi (fun k x => aoi (fun k' y => ikq op k k' x y) (abin P op t xo yo a b) b) (abin P op t xo yo a b) a
theorem abinq_ok {P : Program} {op : BinOp} {t : TypeId} {xo yo : Operand} {a b r : AV} (h : abinq P op t xo yo a b = some r) : abin P op t xo yo a b = some r := by
  cases a <;> try exact h
  cases b <;> try exact h
  exact ikq_ok h

/-! operations without memory -/
def ob {α β : Type} (x : Option α) (f : α → Option β) : Option β := Option.rec none (fun a => f a) x
theorem ob_some {α β : Type} {x : Option α} {f : α → Option β} {r : β} (h : ob x f = some r) : ∃ a, x = some a ∧ f a = some r := by
  cases x with
  | none => cases h
  | some a => exact ⟨a, rfl, h⟩
def qbin (P : Program) (ρ : Rho) (op : BinOp) (t : TypeId) (x y : Operand) : Option AV := ob (ρ x) fun a => ob (ρ y) fun b => abinq P op t x y a b
def qpick (ρ : Rho) (c a b : Operand) : Option AV := ob (ρ c) fun v => aob (ρ a) (ρ b) v
def qbd (ρ : Rho) (x : Operand) : Option Nat := ob (ρ x) aon
def qnil (ρ : Rho) (x : Operand) : Option AV := ob (ρ x) fun v => aop_ (fun i o => some (.p i o)) (apure default (fun _ => some v) (.nilCheck x)) v
theorem qbin_ok {P : Program} {ρ : Rho} {op : BinOp} {t u : TypeId} {x y : Operand} {r : AV} (h : qbin P ρ op t x y = some r) : apure P ρ (.binOp op t x y u) = some r := by
  obtain ⟨a, h1, h⟩ := ob_some h
  obtain ⟨b, h2, h⟩ := ob_some h
  simp only [apure, h1, h2]
  exact abinq_ok h
theorem qpick_ok {P : Program} {ρ : Rho} {c a b : Operand} {r : AV} (h : qpick ρ c a b = some r) : apure P ρ (.pick c a b) = some r := by
  obtain ⟨v, h1, h⟩ := ob_some h
  cases v <;> try (cases h; done)
  rename_i x
  simp only [apure, h1]
  cases x <;> exact h
theorem qbd_ok {ρ : Rho} {x : Operand} {r : Nat} (h : qbd ρ x = some r) : bd ρ x = some r := by
  obtain ⟨v, h1, h⟩ := ob_some h
  cases v <;> try (cases h; done)
  rename_i k n
  cases n <;> try (cases h; done)
  simp only [bd, h1]
  exact h
theorem qnil_ok {P : Program} {ρ : Rho} {x : Operand} {r : AV} (h : qnil ρ x = some r) : apure P ρ (.nilCheck x) = some r := by
  obtain ⟨v, h1, h⟩ := ob_some h
  have e : apure P ρ (.nilCheck x) = apure default (fun _ => some v) (.nilCheck x) := by simp only [apure, h1]
  rw [e]
  cases v <;> exact h
def qload (P : Program) (S : St) (ρ : Rho) (t : TypeId) (x : Operand) : Option AV := ob (ρ x) fun v => aop_ (fun i o => ob (S.h.get i) fun b => Blk.rec (motive := fun _ => Program → TypeId → Nat → Option AV) (fun _ cs _ _ P t o => ald P t cs o) (fun _ _ _ _ _ => none) (fun _ _ _ _ _ _ => none) b P t o) none v
theorem qload_ok {P : Program} {S : St} {ρ : Rho} {t : TypeId} {x : Operand} {r : AV} (h : qload P S ρ t x = some r) : ard P S.lk ρ (.load t x) = some r := by
  obtain ⟨v, h1, h⟩ := ob_some h
  cases v <;> try (cases h; done)
  rename_i i o
  obtain ⟨b, h2, h⟩ := ob_some h
  cases b <;> try (cases h; done)
  rename_i t' cs fz ex
  have h3 : S.lk i = some (.cells t' cs fz ex) := h2
  have h4 : ald P t cs o = some r := h
  simp only [ard, aload, h1, h3, h4]
def acvk (P : Program) (s d : TypeId) : Option IntKind :=
  match und P s, und P d with
  | some _, some (.int k) => some k
  | _, _ => none
def qconv (P : Program) (ρ : Rho) (s d : TypeId) (x : Operand) : Option AV := ob (ρ x) fun a => aoi (fun _ n => ob (acvk P s d) fun k => some (.i k (qwrap k n))) (acv P s d a) a
theorem qconv_ok {P : Program} {ρ : Rho} {s d : TypeId} {x : Operand} {r : AV} (h : qconv P ρ s d x = some r) : apure P ρ (.convert s d x) = some r := by
  obtain ⟨v, h1, h⟩ := ob_some h
  simp only [apure, h1]
  cases v <;> try exact h
  obtain ⟨k, h2, h⟩ := ob_some h
  unfold acvk at h2
  split at h2
  · rename_i u k' hs hd
    obtain rfl := Option.some.inj h2
    simp only [acv, hs, hd, ← qwrap_eq]; exact h
  · cases h2
def qfda (P : Program) (ρ : Rho) (s : TypeId) (x : Operand) (f : Nat) : Option AV := ob (ρ x) fun a => afda P s a f
theorem qfda_ok {P : Program} {ρ : Rho} {s : TypeId} {x : Operand} {f : Nat} {r : AV} (h : qfda P ρ s x f = some r) : apure P ρ (.fieldAddr s x f) = some r := by
  obtain ⟨v, h1, h⟩ := ob_some h
  simp only [apure, h1]; exact h
def qixa (P : Program) (ρ : Rho) (t : TypeId) (x i : Operand) : Option AV := ob (ρ x) fun a => ob (qbd ρ i) fun n => aixa P t a n
theorem qixa_ok {P : Program} {ρ : Rho} {t : TypeId} {x i : Operand} {r : AV} (h : qixa P ρ t x i = some r) : apure P ρ (.indexAddr t x i) = some r := by
  obtain ⟨v, h1, h⟩ := ob_some h
  obtain ⟨n, h2, h⟩ := ob_some h
  simp only [apure, h1, qbd_ok h2]; exact h
def qidx (P : Program) (ρ : Rho) (t : TypeId) (x i : Operand) : Option AV := ob (ρ x) fun a => ob (qbd ρ i) fun n => aidx P t a n
theorem qidx_ok {P : Program} {ρ : Rho} {t : TypeId} {x i : Operand} {r : AV} (h : qidx P ρ t x i = some r) : apure P ρ (.index t x i) = some r := by
  obtain ⟨v, h1, h⟩ := ob_some h
  obtain ⟨n, h2, h⟩ := ob_some h
  simp only [apure, h1, qbd_ok h2]; exact h
/-! a store, parts, texts and slices -/
def aopN (v : AV) : Option (Nat × Nat) :=
  AV.rec (motive_1 := fun _ => Option (Nat × Nat)) (motive_2 := fun _ => Unit) (fun _ => none) (fun _ _ => none) (fun _ _ => none) (fun i o => some (i, o)) none (fun _ _ _ _ _ _ => none) none (fun _ => none) none (fun _ _ _ _ _ => none) none (fun _ _ _ => none) none (fun _ _ => none) (fun _ _ => none) (fun _ => none) ⟨⟩ (fun _ _ _ _ => ⟨⟩) v
def atpN (v : AV) : Option (List AV) :=
  AV.rec (motive_1 := fun _ => Option (List AV)) (motive_2 := fun _ => Unit) (fun _ => none) (fun _ _ => none) (fun _ _ => none) (fun _ _ => none) none (fun _ _ _ _ _ _ => none) none (fun _ => none) none (fun _ _ _ _ _ => none) none (fun _ _ _ => none) none (fun _ _ => none) (fun l _ => some l) (fun _ => none) ⟨⟩ (fun _ _ _ _ => ⟨⟩) v
def qasB : Blk → Nat → St → Nat → Nat → List AV → Option St :=
  Blk.rec (motive := fun _ => Nat → St → Nat → Nat → List AV → Option St) (fun t cs fz ex g S id off l => cnd (Nat.ble g id) (cnd (Nat.ble fz off) (cnd (Nat.ble (Nat.add off (len l)) (len cs)) (cnd (allc l) (some ⟨S.h.put (some (.cells t (putR off l cs) fz ex)) id, S.nx⟩) none) none) none) none) (fun _ _ _ _ _ _ _ => none) (fun _ _ _ _ _ _ _ _ => none)
def qsto (P : Program) (g : Nat) (S : St) (ρ : Rho) (t : TypeId) (x v : Operand) : Option St :=
  ob (ob (ρ x) aopN) fun q => ob (ρ v) fun a => ob (szo P t) fun n => cnd (Nat.beq (len (cel a)) n) (ob (S.h.get q.1) fun b => qasB b g S q.1 q.2 (cel a)) none
theorem qasB_ok {b : Blk} {g : Nat} {S S' : St} {id off : Nat} {l : List AV} (hb : S.h.get id = some b) (h : qasB b g S id off l = some S') : asto g S id off l = some S' ∧ S'.nx = S.nx := by
  cases b with
  | cells t cs fz ex =>
    have h : cnd (Nat.ble g id) (cnd (Nat.ble fz off) (cnd (Nat.ble (off + len l) (len cs)) (cnd (allc l) (some (⟨S.h.put (some (.cells t (putR off l cs) fz ex)) id, S.nx⟩ : St)) none) none) none) none = some S' := h
    simp only [cnd_bif] at h
    cases h1 : Nat.ble g id <;> rw [h1] at h <;> try (cases h; done)
    cases h2 : Nat.ble fz off <;> rw [h2] at h <;> try (cases h; done)
    cases h3 : Nat.ble (off + len l) (len cs) <;> rw [h3] at h <;> try (cases h; done)
    cases h4 : allc l <;> rw [h4] at h <;> try (cases h; done)
    simp only [cond_true] at h
    refine ⟨?_, by rw [← Option.some.inj h]⟩
    unfold asto
    simp only [hb, h1, h2, h3, h4, Bool.and_self, cond_true]
    exact h
  | map _ _ => cases h
  | it _ _ _ => cases h
theorem qsto_ok {P : Program} {g : Nat} {S S' : St} {ρ : Rho} {t : TypeId} {x v : Operand} (h : qsto P g S ρ t x v = some S') : awr P g S ρ (.store t x v) = some (.tp [], S') ∧ S'.nx = S.nx := by
  obtain ⟨q, h1, h⟩ := ob_some h
  obtain ⟨p, h0, h1⟩ := ob_some h1
  obtain ⟨a, h2, h⟩ := ob_some h
  obtain ⟨n, h3, h⟩ := ob_some h
  cases p <;> try (cases h1; done)
  rename_i i o
  obtain rfl : q = (i, o) := (Option.some.inj h1).symm
  rw [cnd_bif] at h
  cases hl : Nat.beq (len (cel a)) n with
  | false => rw [hl] at h; cases h
  | true =>
    rw [hl, cond_true] at h
    obtain ⟨b, h4, h⟩ := ob_some h
    obtain ⟨h5, h6⟩ := qasB_ok h4 h
    refine ⟨?_, h6⟩
    simp only [awr, h0, h2, h3, hl, cond_true, h5]
def qext (ρ : Rho) (x : Operand) (i : Nat) : Option AV := ob (ob (ρ x) atpN) fun l => nth l i
theorem qext_ok {P : Program} {ρ : Rho} {x : Operand} {i : Nat} {r : AV} (h : qext ρ x i = some r) : apure P ρ (.extract x i) = some r := by
  obtain ⟨l, h1, h⟩ := ob_some h
  obtain ⟨v, h0, h1⟩ := ob_some h1
  cases v <;> try (cases h1; done)
  simp only [apure, h0]
  obtain rfl := Option.some.inj h1
  exact h
def qfld (P : Program) (ρ : Rho) (t : TypeId) (x : Operand) (f : Nat) : Option AV := ob (ρ x) fun a => afld P t a f
theorem qfld_ok {P : Program} {ρ : Rho} {t : TypeId} {x : Operand} {f : Nat} {r : AV} (h : qfld P ρ t x f = some r) : apure P ρ (.field t x f) = some r := by
  obtain ⟨v, h1, h⟩ := ob_some h
  simp only [apure, h1]; exact h
def qsli (P : Program) (ρ : Rho) (t : TypeId) (x : Operand) (lo hi mx : Option Operand) : Option AV := ob (ρ x) fun a => asli P ρ t a lo hi mx
theorem qsli_ok {P : Program} {ρ : Rho} {t : TypeId} {x : Operand} {lo hi mx : Option Operand} {r : AV} (h : qsli P ρ t x lo hi mx = some r) : apure P ρ (.slice t x lo hi mx) = some r := by
  obtain ⟨v, h1, h⟩ := ob_some h
  simp only [apure, h1]; exact h
def qbul (P : Program) (ρ : Rho) (b : Builtin) (args : Array Operand) (tys : Array TypeId) : Option AV := ob (amap ρ args.toList) fun as => abul P b tys.toList as
theorem qbul_ok {P : Program} {ρ : Rho} {b : Builtin} {args : Array Operand} {tys : Array TypeId} {r : AV} (h : qbul P ρ b args tys = some r) : apure P ρ (.call ⟨.builtin b, args, tys⟩) = some r := by
  obtain ⟨v, h1, h⟩ := ob_some h
  simp only [apure, h1]; exact h
end
end Am
end
section
namespace Am
open Go
noncomputable section

inductive Out where
  | norm | exit (id : Nat) | ret
/-- how a run ends; where it was stopped -/
inductive Ex where
  | ok (o : Out) (e : Env) (S : St)
  | bad (l : List Nat)
inductive Rg where
  | ok (e : Env) (S : St)
  | bad (l : List Nat)
inductive Cl where
  | ok (v : AV) (S : St)
  | bad (l : List Nat)

/-- what is known of the program: which functions may be entered, which are none of Go's own text -/
structure Known where
  g : Nat
  enter : Nat → Bool
  ext : Nat → Nat
  mz : TypeId
  con : Nat → List AV → St → Option AV

def evoT : Operand → Known → Env → Option AV :=
  Operand.rec (motive := fun _ => Known → Env → Option AV) (fun t _ env => eget env t) (fun v _ _ => Option.rec (motive := fun _ => Option AV) none (fun a => some a) (konst v)) (fun g K _ => cnd (Nat.blt g K.g) (some (.p g 0)) none) (fun f _ _ => some (.fn (.func f) [] []))
def evo (K : Known) (env : Env) : Rho := fun x => evoT x K env
def aput (n : Nat) (env : Env) (d : Option Tmp) (v : AV) : Option Env :=
  Option.rec (motive := fun _ => Option Env) (some env) (fun d => cnd (Nat.blt d n) (some (eput env d v)) none) d

/-- an operation that calls no function -/
def aquiet (P : Program) (K : Known) (S : St) (ρ : Rho) (o : Op) : Option (AV × St) :=
  match apure P ρ o with
  | some v => some (v, S)
  | none => match ard P S.lk ρ o with
    | some v => some (v, S)
    | none => match aalloc P ρ o with
      | some (blk, f) => bif Nat.ble K.g S.nx then some (f S.nx, ⟨S.h.put (some blk) S.nx, Nat.succ S.nx⟩) else none
      | none => match awr P K.g S ρ o with
        | some (v, S') => bif Nat.ble S.nx S'.nx then some (v, S') else none
        | none => none
def app2 (a b : List AV) : List AV := List.rec b (fun x _ ih => x :: ih) a
/-- the function that is called, with its arguments -/
def acallee (ρ : Rho) (o : Op) : Option (FuncId × List AV) :=
  match o with
  | .call c => match c.callee with
    | .value x => match ρ x, amap ρ c.args.toList with
      | some (.fn (.func f) a b), some as => some (f, app2 a (app2 as b))
      | _, _ => none
    | _ => none
  | _ => none
def ienv (l : List AV) : Nat → Env → Env := List.rec (motive := fun _ => Nat → Env → Env) (fun _ e => e) (fun a _ go i e => go (Nat.succ i) (eput e i a)) l
theorem ienv_nil (i : Nat) (e : Env) : ienv [] i e = e := rfl
theorem ienv_cons (a : AV) (l : List AV) (i : Nat) (e : Env) : ienv (a :: l) i e = ienv l (Nat.succ i) (eput e i a) := rfl
def ares1 (P : Program) (K : Known) (env : Env) (S : St) : ResultVar → Option AV
  | .tmp t => eget env t
  | .cell a t => match eget env a with
    | some (.p id off) => match S.h.get id with
      | some (.cells _ cs _ _) => ald P t cs off
      | _ => none
    | _ => none
def aressT : List ResultVar → Program → Known → Env → St → Option (List AV) :=
  List.rec (motive := fun _ => Program → Known → Env → St → Option (List AV)) (fun _ _ _ _ => some []) (fun r _ ih P K env S => obl (ares1 P K env S r) (ih P K env S))
def aress (P : Program) (K : Known) (env : Env) (S : St) (l : List ResultVar) : Option (List AV) := aressT l P K env S
def onet : List AV → AV := List.rec (motive := fun _ => AV) (.tp []) (fun a l _ => List.rec (motive := fun _ => AV → AV) (fun a => a) (fun b l _ a => .tp (a :: b :: l)) l a)
def ares (P : Program) (K : Known) (env : Env) (S : St) (l : List ResultVar) : Option AV := Option.rec (motive := fun _ => Option AV) none (fun l => some (onet l)) (aress P K env S l)

/-- functions that are none of Go's text -/
def aibs (c : Nat) (n : Nat) : Nat → Nat → Int := Nat.rec (fun _ _ => -1) (fun _ ih x i => bif Nat.beq (Nat.mod x 256) c then .ofNat i else ih (Nat.div x 256) (Nat.succ i)) n
def aextern (P : Program) (K : Known) (S : St) (k : Nat) (as : List AV) : Option (AV × St) :=
  match k, as with
  | 1, [.s n x, .i .u8 (.ofNat c)] => bif Nat.blt c 256 then some (.i .i64 (aibs c n x 0), S) else none
  | 2, [a] => some (a, S)
  | 3, [.i .i64 (.ofNat n)] => match und P K.mz with
    | some (.slice e) => bif Nat.ble K.g S.nx && Nat.ble n 1073741824 then some (.sl S.nx 0 n none 1 0, ⟨S.h.put (some (.cells e [] 0 false)) S.nx, Nat.succ S.nx⟩) else none
    | _ => none
  | _, _ => none

/-- a function that is none of Go's text, or one of which a contract is known: it turns nothing that was there -/
def aext (P : Program) (K : Known) (S : St) (f : FuncId) (as : List AV) : Option (AV × St) :=
  match aextern P K S (K.ext f) as with
  | some p => some p
  | none => match K.con (K.ext f) as S with
    | some v => some (v, S)
    | none => none
def acallf (P : Program) (K : Known) (ih : Code → Nat → Env → St → Ex) (S : St) (f : FuncId) (as : List AV) : Cl :=
  bif K.enter f then
    match fnc P f with
    | none => .bad [f]
    | some fn => match fn.body with
      | none => .bad [f]
      | some c => bif Nat.ble (len as) fn.ntmps then
          match ih c fn.ntmps (ienv as 0 enew) S with
          | .bad l => .bad (f :: l)
          | .ok .norm env S' => match ares P K env S' fn.results.toList with
            | some v => .ok v S'
            | none => .bad [f, 777]
          | .ok .ret env S' => match ares P K env S' fn.results.toList with
            | some v => .ok v S'
            | none => .bad [f, 778]
          | .ok (.exit _) _ _ => .bad [f, 779]
        else .bad [f, 780]
  else match aext P K S f as with
    | some (v, S') => .ok v S'
    | none => .bad [f, 781]

def aop0 (P : Program) (K : Known) (ih : Code → Nat → Env → St → Ex) (S : St) (ρ : Rho) (o : Op) : Cl :=
  match aquiet P K S ρ o with
  | some (v, S') => .ok v S'
  | none => match acallee ρ o with
    | some (f, as) => acallf P K ih S f as
    | none => .bad []
def clo (S : St) (x : Option AV) (g : Cl) : Cl := Option.rec g (fun v => .ok v S) x
def cls (x : Option St) : Cl := Option.rec (motive := fun _ => Cl) (.bad []) (fun S => .ok (.tp []) S) x
def acall : Call → Program → Known → (Code → Nat → Env → St → Ex) → St → Rho → Cl :=
  Call.rec (motive := fun _ => Program → Known → (Code → Nat → Env → St → Ex) → St → Rho → Cl) (fun ce => Callee.rec (motive := fun _ => Array Operand → Array TypeId → Program → Known → (Code → Nat → Env → St → Ex) → St → Rho → Cl) (fun _ _ _ _ _ _ _ _ => .bad []) (fun _ _ _ _ _ _ _ _ _ => .bad []) (fun b args tys P K ih S ρ => clo S (qbul P ρ b args tys) (aop0 P K ih S ρ (.call ⟨.builtin b, args, tys⟩))) ce)
def aopT : Op → Program → Known → (Code → Nat → Env → St → Ex) → St → Rho → Cl :=
  Op.rec (motive := fun _ => Program → Known → (Code → Nat → Env → St → Ex) → St → Rho → Cl)
    (fun x P K ih S ρ => clo S (ρ x) (.bad [])) (fun x P K ih S ρ => clo S (ρ x) (.bad [])) (fun c a b P K ih S ρ => clo S (qpick ρ c a b) (.bad [])) (fun t P K ih S ρ => aop0 P K ih S ρ (.alloc t))
    (fun t x P K ih S ρ => aop0 P K ih S ρ (.box t x)) (fun t l P K ih S ρ => aop0 P K ih S ρ (.build t l)) (fun t n l P K ih S ρ => aop0 P K ih S ρ (.buildSlice t n l)) (fun t a b c P K ih S ρ => aop0 P K ih S ρ (.insert t a b c))
    (fun t x P K ih S ρ => clo S (qload P S ρ t x) (.bad [])) (fun t x v P K ih S ρ => cls (qsto P K.g S ρ t x v)) (fun _ _ _ _ _ _ => .bad []) (fun _ _ _ _ _ _ => .bad [])
    (fun x P K ih S ρ => clo S (qnil ρ x) (.bad [])) (fun op t x y _ P K ih S ρ => clo S (qbin P ρ op t x y) (.bad [])) (fun op t x P K ih S ρ => aop0 P K ih S ρ (.unOp op t x)) (fun s d x P K ih S ρ => clo S (qconv P ρ s d x) (aop0 P K ih S ρ (.convert s d x)))
    (fun _ _ _ _ _ _ _ => .bad []) (fun t x P K ih S ρ => aop0 P K ih S ρ (.makeInterface t x)) (fun f a b P K ih S ρ => aop0 P K ih S ρ (.makeFunc f a b)) (fun t x P K ih S ρ => aop0 P K ih S ρ (.makeMap t x))
    (fun _ _ _ _ _ _ _ => .bad []) (fun t x y P K ih S ρ => aop0 P K ih S ρ (.makeSlice t x y)) (fun t x a b c P K ih S ρ => clo S (qsli P ρ t x a b c) (aop0 P K ih S ρ (.slice t x a b c))) (fun s x f P K ih S ρ => clo S (qfda P ρ s x f) (.bad []))
    (fun t x f P K ih S ρ => clo S (qfld P ρ t x f) (.bad [])) (fun t x i P K ih S ρ => clo S (qixa P ρ t x i) (.bad [])) (fun t x i P K ih S ρ => clo S (qidx P ρ t x i) (.bad [])) (fun t x k o P K ih S ρ => aop0 P K ih S ρ (.lookup t x k o))
    (fun t a b c P K ih S ρ => aop0 P K ih S ρ (.mapUpdate t a b c)) (fun t a b P K ih S ρ => aop0 P K ih S ρ (.mapEntry t a b)) (fun t a b c P K ih S ρ => aop0 P K ih S ρ (.entryStore t a b c)) (fun t x P K ih S ρ => aop0 P K ih S ρ (.range t x))
    (fun x b P K ih S ρ => aop0 P K ih S ρ (.next x b)) (fun _ _ _ _ _ _ => .bad []) (fun _ _ _ _ _ _ _ _ _ => .bad []) (fun x i P K ih S ρ => clo S (qext ρ x i) (.bad []))
    (fun c P K ih S ρ => acall c P K ih S ρ) (fun _ _ _ _ _ _ => .bad []) (fun _ _ _ _ _ _ => .bad []) (fun _ _ _ _ _ _ => .bad [])
    (fun _ _ _ _ _ _ _ => .bad []) (fun _ _ _ _ _ _ _ _ => .bad []) (fun _ _ _ _ _ _ _ => .bad [])
def aop (P : Program) (K : Known) (ih : Code → Nat → Env → St → Ex) (S : St) (ρ : Rho) (o : Op) : Cl := aopT o P K ih S ρ
def awant1 (all : List Oper) (env : Env) (j : Nat) (w : Bool) : Option Bool :=
  match nth all j with
  | some oj => match oj.dst with
    | some t => match eget env t with
      | some (.b x) => some (x == w)
      | some (.tp _) => some false
      | _ => none
    | none => none
  | none => none
def awant (all : List Oper) (env : Env) (o : Oper) : Option Bool :=
  Option.rec (motive := fun _ => Option Bool) (some true) (fun g => awant1 all env g.1 g.2) o.guard
abbrev IH := Code → Nat → Env → St → Ex
abbrev Draw := IH → Array Oper → Nat → Nat → Env → St → Rg
end
end Am
end
