/- A machine for closed runs: quick forms of what is done most. No program in sight. -/
import Derived.Test.YtbeageacgalhiaaGreatDoorAmUe
set_option linter.unusedVariables false
set_option linter.unusedSimpArgs false
namespace Am
open Go
noncomputable section

def iop (f : Nat → Nat → IntKind → Int → Int → Int) (g : IntKind → Int → Int → Int) (k : IntKind) (x y : Int) : Int :=
  Int.rec (motive := fun _ => (Nat → Nat → IntKind → Int → Int → Int) → (IntKind → Int → Int → Int) → IntKind → Int → Int → Int)
    (fun a f g k x y => Int.rec (motive := fun _ => Nat → (Nat → Nat → IntKind → Int → Int → Int) → (IntKind → Int → Int → Int) → IntKind → Int → Int → Int) (fun b a f _ k x y => f a b k x y) (fun _ _ _ g k x y => g k x y) y a f g k x y) (fun _ _ g k x y => g k x y) x f g k x y
def addG (k : IntKind) (x y : Int) : Int := iwrap k (x + y)
def subG (k : IntKind) (x y : Int) : Int := iwrap k (x - y)
def mulG (k : IntKind) (x y : Int) : Int := iwrap k (x * y)
def quoG (k : IntKind) (x y : Int) : Int := iwrap k (x.tdiv y)
def remG (k : IntKind) (x y : Int) : Int := x.tmod y
def uwrap : IntKind → Nat → Int :=
  IntKind.rec (motive := fun _ => Nat → Int) (fun n => IntKind.i8.wrap (.ofNat n)) (fun n => IntKind.i16.wrap (.ofNat n)) (fun n => IntKind.i32.wrap (.ofNat n)) (fun n => IntKind.i64.wrap (.ofNat n))
    (fun n => .ofNat (Nat.mod n 256)) (fun n => .ofNat (Nat.mod n 65536)) (fun n => .ofNat (Nat.mod n 4294967296)) (fun n => .ofNat (Nat.mod n 18446744073709551616))
theorem uwrap_eq (k : IntKind) (n : Nat) : uwrap k n = k.wrap (.ofNat n) := by
  cases k <;> rfl
def small (k : IntKind) (n : Nat) : Int := cnd (Nat.blt n (klim k)) (.ofNat n) (uwrap k n)
theorem small_eq (k : IntKind) (n : Nat) : small k n = iwrap k (.ofNat n) := by
  rw [small, cnd_eq]
  cases hb : Nat.blt n (klim k) with
  | false => rw [iwrap_eq, ← uwrap_eq]; rfl
  | true => simp [iwrap, hb]
def qwrap (k : IntKind) (n : Int) : Int := Int.rec (motive := fun _ => IntKind → Int) (fun a k => small k a) (fun a k => k.wrap (.negSucc a)) n k
theorem qwrap_eq (k : IntKind) (n : Int) : qwrap k n = iwrap k n := by
  cases n with
  | ofNat a => exact small_eq k a
  | negSucc a => rfl
def addN (a b : Nat) (k : IntKind) (x y : Int) : Int := small k (Nat.add a b)
def subN (a b : Nat) (k : IntKind) (x y : Int) : Int := cnd (Nat.ble b a) (small k (Nat.sub a b)) (subG k x y)
def mulN (a b : Nat) (k : IntKind) (x y : Int) : Int := small k (Nat.mul a b)
def quoN (a b : Nat) (k : IntKind) (x y : Int) : Int := small k (Nat.div a b)
def remN (a b : Nat) (k : IntKind) (x y : Int) : Int := .ofNat (Nat.mod a b)
def qadd (k : IntKind) (x y : Int) : Int := iop addN addG k x y
def qsub (k : IntKind) (x y : Int) : Int := iop subN subG k x y
def qmul (k : IntKind) (x y : Int) : Int := iop mulN mulG k x y
def qquo (k : IntKind) (x y : Int) : Int := iop quoN quoG k x y
def qrem (k : IntKind) (x y : Int) : Int := iop remN remG k x y
def qlt (x y : Int) : Bool := Int.rec (motive := fun _ => Int → Bool) (fun a y => Int.rec (motive := fun _ => Nat → Bool) (fun b a => Nat.blt a b) (fun _ _ => false) y a) (fun a y => Int.rec (motive := fun _ => Nat → Bool) (fun _ _ => true) (fun b a => Nat.blt b a) y a) x y
def qeq (x y : Int) : Bool := Int.rec (motive := fun _ => Int → Bool) (fun a y => Int.rec (motive := fun _ => Nat → Bool) (fun b a => Nat.beq a b) (fun _ _ => false) y a) (fun a y => Int.rec (motive := fun _ => Nat → Bool) (fun _ _ => false) (fun b a => Nat.beq a b) y a) x y
def qnot (b : Bool) : Bool := Bool.rec true false b
theorem qadd_eq (k : IntKind) (x y : Int) : qadd k x y = iwrap k (x + y) := by
  cases x <;> cases y <;> try rfl
  exact small_eq _ _
theorem qsub_eq (k : IntKind) (x y : Int) : qsub k x y = iwrap k (x - y) := by
  cases x <;> cases y <;> try rfl
  rename_i a b
  show cnd (Nat.ble b a) (small k (Nat.sub a b)) (subG k (.ofNat a) (.ofNat b)) = _
  rw [cnd_eq]
  split
  · rename_i hb
    rw [Nat.ble_eq] at hb
    rw [small_eq]
    have : (Int.ofNat a - Int.ofNat b) = Int.ofNat (Nat.sub a b) := by
      show (Int.ofNat a - Int.ofNat b) = Int.ofNat (a - b)
      simp only [Int.ofNat_eq_natCast]; omega
    rw [this]
  · rfl
theorem qmul_eq (k : IntKind) (x y : Int) : qmul k x y = iwrap k (x * y) := by
  cases x <;> cases y <;> try rfl
  exact small_eq _ _
theorem qquo_eq (k : IntKind) (x y : Int) : qquo k x y = iwrap k (x.tdiv y) := by
  cases x <;> cases y <;> try rfl
  exact small_eq _ _
theorem qrem_eq (k : IntKind) (x y : Int) : qrem k x y = x.tmod y := by cases x <;> cases y <;> rfl
theorem qlt_eq (x y : Int) : qlt x y = ilt x y := by cases x <;> cases y <;> rfl
theorem qeq_eq (x y : Int) : qeq x y = ieq x y := by cases x <;> cases y <;> rfl
theorem qnot_eq (b : Bool) : qnot b = !b := by cases b <;> rfl
theorem cnd_bif {α : Type} (b : Bool) (x y : α) : cnd b x y = bif b then x else y := by cases b <;> rfl
def nsh (k : IntKind) (n : Nat) : Nat := cnd (Nat.ble n k.bits) n k.bits
theorem nsh_eq (k : IntKind) (n : Nat) : nsh k n = min n k.bits := by
  rw [nsh, cnd_eq]
  by_cases h : n ≤ k.bits
  · rw [if_pos (by rw [Nat.ble_eq]; exact h), Nat.min_eq_left h]
  · rw [if_neg (by rw [Nat.ble_eq]; exact h), Nat.min_eq_right (by omega)]
def qshl (k : IntKind) (x y : Int) : Option AV :=
  Int.rec (motive := fun _ => Int → IntKind → Option AV) (fun a y k => Int.rec (motive := fun _ => Nat → IntKind → Option AV) (fun n a k => some (.i k (small k (Nat.mul a (Nat.pow 2 (nsh k n)))))) (fun _ _ _ => none) y a k) (fun a y k => ishf .shl k (.negSucc a) y) x y k
def qshr (k : IntKind) (x y : Int) : Option AV :=
  Int.rec (motive := fun _ => Int → IntKind → Option AV) (fun a y k => Int.rec (motive := fun _ => Nat → IntKind → Option AV) (fun n a k => some (.i k (.ofNat (Nat.div a (Nat.pow 2 (nsh k n)))))) (fun _ _ _ => none) y a k) (fun a y k => ishf .shr k (.negSucc a) y) x y k
theorem qshl_eq (k : IntKind) (x y : Int) : qshl k x y = ishf .shl k x y := by
  cases x with
  | negSucc a => rfl
  | ofNat a => cases y with
    | negSucc n => rfl
    | ofNat n =>
      show some (AV.i k (small k (a * 2 ^ nsh k n))) = some (AV.i k (iwrap k (Int.ofNat a * ((2 ^ (min n k.bits) : Nat) : Int))))
      rw [small_eq, nsh_eq]; rfl
theorem qshr_eq (k : IntKind) (x y : Int) : qshr k x y = ishf .shr k x y := by
  cases x with
  | negSucc a => rfl
  | ofNat a => cases y with
    | negSucc n => rfl
    | ofNat n =>
      show some (AV.i k (Int.ofNat (a / 2 ^ nsh k n))) = some (AV.i k ((Int.ofNat a).fdiv ((2 ^ (min n k.bits) : Nat) : Int)))
      rw [nsh_eq]
      have := Int.ofNat_fdiv a (2 ^ (min n k.bits))
      simp only [Int.ofNat_eq_natCast] at this ⊢
      rw [this]
/-- two whole numbers -/
def ikq : BinOp → IntKind → IntKind → Int → Int → Option AV :=
  BinOp.rec (motive := fun _ => IntKind → IntKind → Int → Int → Option AV)
    (fun k k' x y => cnd (keq k k') (some (.i k (qadd k x y))) none) (fun k k' x y => cnd (keq k k') (some (.i k (qsub k x y))) none) (fun k k' x y => cnd (keq k k') (some (.i k (qmul k x y))) none)
    (fun k k' x y => cnd (keq k k') (cnd (qeq y (.ofNat 0)) none (some (.i k (qquo k x y)))) none) (fun k k' x y => cnd (keq k k') (cnd (qeq y (.ofNat 0)) none (some (.i k (qrem k x y)))) none)
    (fun k k' x y => cnd (keq k k') (ikin .and k x y) none) (fun k k' x y => cnd (keq k k') (ikin .or k x y) none) (fun k k' x y => cnd (keq k k') (ikin .xor k x y) none) (fun k _ x y => qshl k x y) (fun k _ x y => qshr k x y) (fun _ _ _ _ => none)
    (fun k k' x y => cnd (keq k k') (some (.b (qeq x y))) none) (fun k k' x y => cnd (keq k k') (some (.b (qnot (qeq x y)))) none) (fun k k' x y => cnd (keq k k') (some (.b (qlt x y))) none)
    (fun k k' x y => cnd (keq k k') (some (.b (qnot (qlt y x)))) none) (fun k k' x y => cnd (keq k k') (some (.b (qlt y x))) none) (fun k k' x y => cnd (keq k k') (some (.b (qnot (qlt x y)))) none)
theorem ikq_ok {P : Program} {op : BinOp} {t : TypeId} {xo yo : Operand} {k k' : IntKind} {x y : Int} {r : AV} (h : ikq op k k' x y = some r) : abin P op t xo yo (.i k x) (.i k' y) = some r := by
  cases op
  case shl => exact (qshl_eq k x y).symm.trans h
  case shr => exact (qshr_eq k x y).symm.trans h
  all_goals first | exact h | (cases h; done) | skip
  all_goals
    simp only [ikq, cnd_bif, qadd_eq, qsub_eq, qmul_eq, qquo_eq, qrem_eq, qlt_eq, qeq_eq, qnot_eq] at h
    simp only [abin, ikin]
    exact h
/-- 'f' of what is an int, 'g' of what is none -/
def aoi (f : IntKind → Int → Option AV) (g : Option AV) (v : AV) : Option AV :=
  AV.rec (motive_1 := fun _ => (IntKind → Int → Option AV) → Option AV → Option AV) (motive_2 := fun _ => Unit) (fun _ _ g => g) (fun k n f _ => f k n) (fun _ _ _ g => g) (fun _ _ _ g => g) (fun _ g => g) (fun _ _ _ _ _ _ _ g => g) (fun _ g => g) (fun _ _ g => g) (fun _ g => g) (fun _ _ _ _ _ _ g => g) (fun _ g => g) (fun _ _ _ _ g => g) (fun _ g => g) (fun _ _ _ g => g) (fun _ _ _ g => g) (fun _ _ g => g) ⟨⟩ (fun _ _ _ _ => ⟨⟩) v f g
def aop_ (f : Nat → Nat → Option AV) (g : Option AV) (v : AV) : Option AV :=
  AV.rec (motive_1 := fun _ => (Nat → Nat → Option AV) → Option AV → Option AV) (motive_2 := fun _ => Unit) (fun _ _ g => g) (fun _ _ _ g => g) (fun _ _ _ g => g) (fun i o f _ => f i o) (fun _ g => g) (fun _ _ _ _ _ _ _ g => g) (fun _ g => g) (fun _ _ g => g) (fun _ g => g) (fun _ _ _ _ _ _ g => g) (fun _ g => g) (fun _ _ _ _ g => g) (fun _ g => g) (fun _ _ _ g => g) (fun _ _ _ g => g) (fun _ _ g => g) ⟨⟩ (fun _ _ _ _ => ⟨⟩) v f g
def aob (a b : Option AV) (v : AV) : Option AV :=
  AV.rec (motive_1 := fun _ => Option AV → Option AV → Option AV) (motive_2 := fun _ => Unit) (fun x a b => cnd x a b) (fun _ _ _ _ => none) (fun _ _ _ _ => none) (fun _ _ _ _ => none) (fun _ _ => none) (fun _ _ _ _ _ _ _ _ => none) (fun _ _ => none) (fun _ _ _ => none) (fun _ _ => none) (fun _ _ _ _ _ _ _ => none) (fun _ _ => none) (fun _ _ _ _ _ => none) (fun _ _ => none) (fun _ _ _ _ => none) (fun _ _ _ _ => none) (fun _ _ _ => none) ⟨⟩ (fun _ _ _ _ => ⟨⟩) v a b
def aon (v : AV) : Option Nat :=
  AV.rec (motive_1 := fun _ => Option Nat) (motive_2 := fun _ => Unit) (fun _ => none) (fun _ n => Int.rec (motive := fun _ => Option Nat) (fun a => some a) (fun _ => none) n) (fun _ _ => none) (fun _ _ => none) none (fun _ _ _ _ _ _ => none) none (fun _ => none) none (fun _ _ _ _ _ => none) none (fun _ _ _ => none) none (fun _ _ => none) (fun _ _ => none) (fun _ => none) ⟨⟩ (fun _ _ _ _ => ⟨⟩) v
def abinq (P : Program) (op : BinOp) (t : TypeId) (xo yo : Operand) (a b : AV) : Option AV := aoi (fun k x => aoi (fun k' y => ikq op k k' x y) none b) (abin P op t xo yo a b) a
theorem abinq_ok {P : Program} {op : BinOp} {t : TypeId} {xo yo : Operand} {a b r : AV} (h : abinq P op t xo yo a b = some r) : abin P op t xo yo a b = some r := by
  cases a <;> try exact h
  cases b <;> try (cases h; done)
  exact ikq_ok h

/-! operations without memory -/
def ob {α β : Type} (x : Option α) (f : α → Option β) : Option β := Option.rec none (fun a => f a) x
theorem ob_some {α β : Type} {x : Option α} {f : α → Option β} {r : β} (h : ob x f = some r) : ∃ a, x = some a ∧ f a = some r := by
  cases x with
  | none => cases h
  | some a => exact ⟨a, rfl, h⟩
def qbin (P : Program) (ρ : Rho) (op : BinOp) (t : TypeId) (x y : Operand) : Option AV := ob (ρ x) fun a => ob (ρ y) fun b => abinq P op t x y a b
def qpick (ρ : Rho) (c a b : Operand) : Option AV := ob (ρ c) fun v => aob (ρ a) (ρ b) v
def qbd (ρ : Rho) (x : Operand) : Option Nat := ob (ρ x) aon
def qnil (ρ : Rho) (x : Operand) : Option AV := ob (ρ x) fun v => aop_ (fun i o => some (.p i o)) (apure default (fun _ => some v) (.nilCheck x)) v
theorem qbin_ok {P : Program} {ρ : Rho} {op : BinOp} {t u : TypeId} {x y : Operand} {r : AV} (h : qbin P ρ op t x y = some r) : apure P ρ (.binOp op t x y u) = some r := by
  obtain ⟨a, h1, h⟩ := ob_some h
  obtain ⟨b, h2, h⟩ := ob_some h
  simp only [apure, h1, h2]
  exact abinq_ok h
theorem qpick_ok {P : Program} {ρ : Rho} {c a b : Operand} {r : AV} (h : qpick ρ c a b = some r) : apure P ρ (.pick c a b) = some r := by
  obtain ⟨v, h1, h⟩ := ob_some h
  cases v <;> try (cases h; done)
  rename_i x
  simp only [apure, h1]
  cases x <;> exact h
theorem qbd_ok {ρ : Rho} {x : Operand} {r : Nat} (h : qbd ρ x = some r) : bd ρ x = some r := by
  obtain ⟨v, h1, h⟩ := ob_some h
  cases v <;> try (cases h; done)
  rename_i k n
  cases n <;> try (cases h; done)
  simp only [bd, h1]
  exact h
theorem qnil_ok {P : Program} {ρ : Rho} {x : Operand} {r : AV} (h : qnil ρ x = some r) : apure P ρ (.nilCheck x) = some r := by
  obtain ⟨v, h1, h⟩ := ob_some h
  have e : apure P ρ (.nilCheck x) = apure default (fun _ => some v) (.nilCheck x) := by simp only [apure, h1]
  rw [e]
  cases v <;> exact h
def qload (P : Program) (S : St) (ρ : Rho) (t : TypeId) (x : Operand) : Option AV := ob (ρ x) fun v => aop_ (fun i o => ob (S.h.get i) fun b => Blk.rec (motive := fun _ => Program → TypeId → Nat → Option AV) (fun _ cs _ _ P t o => ald P t cs o) (fun _ _ _ _ _ => none) (fun _ _ _ _ _ _ => none) b P t o) none v
theorem qload_ok {P : Program} {S : St} {ρ : Rho} {t : TypeId} {x : Operand} {r : AV} (h : qload P S ρ t x = some r) : ard P S.lk ρ (.load t x) = some r := by
  obtain ⟨v, h1, h⟩ := ob_some h
  cases v <;> try (cases h; done)
  rename_i i o
  obtain ⟨b, h2, h⟩ := ob_some h
  cases b <;> try (cases h; done)
  rename_i t' cs fz ex
  have h3 : S.lk i = some (.cells t' cs fz ex) := h2
  have h4 : ald P t cs o = some r := h
  simp only [ard, aload, h1, h3, h4]
def acvk (P : Program) (s d : TypeId) : Option IntKind :=
  match und P s, und P d with
  | some _, some (.int k) => some k
  | _, _ => none
def qconv (P : Program) (ρ : Rho) (s d : TypeId) (x : Operand) : Option AV := ob (ρ x) fun a => aoi (fun _ n => ob (acvk P s d) fun k => some (.i k (qwrap k n))) (acv P s d a) a
theorem qconv_ok {P : Program} {ρ : Rho} {s d : TypeId} {x : Operand} {r : AV} (h : qconv P ρ s d x = some r) : apure P ρ (.convert s d x) = some r := by
  obtain ⟨v, h1, h⟩ := ob_some h
  simp only [apure, h1]
  cases v <;> try exact h
  obtain ⟨k, h2, h⟩ := ob_some h
  unfold acvk at h2
  split at h2
  · rename_i u k' hs hd
    obtain rfl := Option.some.inj h2
    simp only [acv, hs, hd, ← qwrap_eq]; exact h
  · cases h2
def qfda (P : Program) (ρ : Rho) (s : TypeId) (x : Operand) (f : Nat) : Option AV := ob (ρ x) fun a => afda P s a f
theorem qfda_ok {P : Program} {ρ : Rho} {s : TypeId} {x : Operand} {f : Nat} {r : AV} (h : qfda P ρ s x f = some r) : apure P ρ (.fieldAddr s x f) = some r := by
  obtain ⟨v, h1, h⟩ := ob_some h
  simp only [apure, h1]; exact h
def qixa (P : Program) (ρ : Rho) (t : TypeId) (x i : Operand) : Option AV := ob (ρ x) fun a => ob (qbd ρ i) fun n => aixa P t a n
theorem qixa_ok {P : Program} {ρ : Rho} {t : TypeId} {x i : Operand} {r : AV} (h : qixa P ρ t x i = some r) : apure P ρ (.indexAddr t x i) = some r := by
  obtain ⟨v, h1, h⟩ := ob_some h
  obtain ⟨n, h2, h⟩ := ob_some h
  simp only [apure, h1, qbd_ok h2]; exact h
def qidx (P : Program) (ρ : Rho) (t : TypeId) (x i : Operand) : Option AV := ob (ρ x) fun a => ob (qbd ρ i) fun n => aidx P t a n
theorem qidx_ok {P : Program} {ρ : Rho} {t : TypeId} {x i : Operand} {r : AV} (h : qidx P ρ t x i = some r) : apure P ρ (.index t x i) = some r := by
  obtain ⟨v, h1, h⟩ := ob_some h
  obtain ⟨n, h2, h⟩ := ob_some h
  simp only [apure, h1, qbd_ok h2]; exact h
/-! a store, parts, texts and slices -/
def aopN (v : AV) : Option (Nat × Nat) :=
  AV.rec (motive_1 := fun _ => Option (Nat × Nat)) (motive_2 := fun _ => Unit) (fun _ => none) (fun _ _ => none) (fun _ _ => none) (fun i o => some (i, o)) none (fun _ _ _ _ _ _ => none) none (fun _ => none) none (fun _ _ _ _ _ => none) none (fun _ _ _ => none) none (fun _ _ => none) (fun _ _ => none) (fun _ => none) ⟨⟩ (fun _ _ _ _ => ⟨⟩) v
def atpN (v : AV) : Option (List AV) :=
  AV.rec (motive_1 := fun _ => Option (List AV)) (motive_2 := fun _ => Unit) (fun _ => none) (fun _ _ => none) (fun _ _ => none) (fun _ _ => none) none (fun _ _ _ _ _ _ => none) none (fun _ => none) none (fun _ _ _ _ _ => none) none (fun _ _ _ => none) none (fun _ _ => none) (fun l _ => some l) (fun _ => none) ⟨⟩ (fun _ _ _ _ => ⟨⟩) v
def qasB : Blk → Nat → St → Nat → Nat → List AV → Option St :=
  Blk.rec (motive := fun _ => Nat → St → Nat → Nat → List AV → Option St) (fun t cs fz ex g S id off l => cnd (Nat.ble g id) (cnd (Nat.ble fz off) (cnd (Nat.ble (Nat.add off (len l)) (len cs)) (cnd (allc l) (some ⟨S.h.put (some (.cells t (putR off l cs) fz ex)) id, S.nx⟩) none) none) none) none) (fun _ _ _ _ _ _ _ => none) (fun _ _ _ _ _ _ _ _ => none)
def qsto (P : Program) (g : Nat) (S : St) (ρ : Rho) (t : TypeId) (x v : Operand) : Option St :=
  ob (ob (ρ x) aopN) fun q => ob (ρ v) fun a => ob (szo P t) fun n => cnd (Nat.beq (len (cel a)) n) (ob (S.h.get q.1) fun b => qasB b g S q.1 q.2 (cel a)) none
theorem qasB_ok {b : Blk} {g : Nat} {S S' : St} {id off : Nat} {l : List AV} (hb : S.h.get id = some b) (h : qasB b g S id off l = some S') : asto g S id off l = some S' ∧ S'.nx = S.nx := by
  cases b with
  | cells t cs fz ex =>
    have h : cnd (Nat.ble g id) (cnd (Nat.ble fz off) (cnd (Nat.ble (off + len l) (len cs)) (cnd (allc l) (some (⟨S.h.put (some (.cells t (putR off l cs) fz ex)) id, S.nx⟩ : St)) none) none) none) none = some S' := h
    simp only [cnd_bif] at h
    cases h1 : Nat.ble g id <;> rw [h1] at h <;> try (cases h; done)
    cases h2 : Nat.ble fz off <;> rw [h2] at h <;> try (cases h; done)
    cases h3 : Nat.ble (off + len l) (len cs) <;> rw [h3] at h <;> try (cases h; done)
    cases h4 : allc l <;> rw [h4] at h <;> try (cases h; done)
    simp only [cond_true] at h
    refine ⟨?_, by rw [← Option.some.inj h]⟩
    unfold asto
    simp only [hb, h1, h2, h3, h4, Bool.and_self, cond_true]
    exact h
  | map _ _ => cases h
  | it _ _ _ => cases h
theorem qsto_ok {P : Program} {g : Nat} {S S' : St} {ρ : Rho} {t : TypeId} {x v : Operand} (h : qsto P g S ρ t x v = some S') : awr P g S ρ (.store t x v) = some (.tp [], S') ∧ S'.nx = S.nx := by
  obtain ⟨q, h1, h⟩ := ob_some h
  obtain ⟨p, h0, h1⟩ := ob_some h1
  obtain ⟨a, h2, h⟩ := ob_some h
  obtain ⟨n, h3, h⟩ := ob_some h
  cases p <;> try (cases h1; done)
  rename_i i o
  obtain rfl : q = (i, o) := (Option.some.inj h1).symm
  rw [cnd_bif] at h
  cases hl : Nat.beq (len (cel a)) n with
  | false => rw [hl] at h; cases h
  | true =>
    rw [hl, cond_true] at h
    obtain ⟨b, h4, h⟩ := ob_some h
    obtain ⟨h5, h6⟩ := qasB_ok h4 h
    refine ⟨?_, h6⟩
    simp only [awr, h0, h2, h3, hl, cond_true, h5]
def qext (ρ : Rho) (x : Operand) (i : Nat) : Option AV := ob (ob (ρ x) atpN) fun l => nth l i
theorem qext_ok {P : Program} {ρ : Rho} {x : Operand} {i : Nat} {r : AV} (h : qext ρ x i = some r) : apure P ρ (.extract x i) = some r := by
  obtain ⟨l, h1, h⟩ := ob_some h
  obtain ⟨v, h0, h1⟩ := ob_some h1
  cases v <;> try (cases h1; done)
  simp only [apure, h0]
  obtain rfl := Option.some.inj h1
  exact h
def qfld (P : Program) (ρ : Rho) (t : TypeId) (x : Operand) (f : Nat) : Option AV := ob (ρ x) fun a => afld P t a f
theorem qfld_ok {P : Program} {ρ : Rho} {t : TypeId} {x : Operand} {f : Nat} {r : AV} (h : qfld P ρ t x f = some r) : apure P ρ (.field t x f) = some r := by
  obtain ⟨v, h1, h⟩ := ob_some h
  simp only [apure, h1]; exact h
def qsli (P : Program) (ρ : Rho) (t : TypeId) (x : Operand) (lo hi mx : Option Operand) : Option AV := ob (ρ x) fun a => asli P ρ t a lo hi mx
theorem qsli_ok {P : Program} {ρ : Rho} {t : TypeId} {x : Operand} {lo hi mx : Option Operand} {r : AV} (h : qsli P ρ t x lo hi mx = some r) : apure P ρ (.slice t x lo hi mx) = some r := by
  obtain ⟨v, h1, h⟩ := ob_some h
  simp only [apure, h1]; exact h
def qbul (P : Program) (ρ : Rho) (b : Builtin) (args : Array Operand) (tys : Array TypeId) : Option AV := ob (amap ρ args.toList) fun as => abul P b tys.toList as
theorem qbul_ok {P : Program} {ρ : Rho} {b : Builtin} {args : Array Operand} {tys : Array TypeId} {r : AV} (h : qbul P ρ b args tys = some r) : apure P ρ (.call ⟨.builtin b, args, tys⟩) = some r := by
  obtain ⟨v, h1, h⟩ := ob_some h
  simp only [apure, h1]; exact h
end
end Am
