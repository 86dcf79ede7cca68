/- A machine for closed runs: its values, its memory, how they lie in the model's. No program in sight. -/
import Derived.WalkKit
import Derived.Below
import Derived.Deep.LoopGhost
import Derived.Orders
set_option linter.unusedVariables false
set_option linter.unusedSimpArgs false
namespace Am
open Go

/-- where a block of the machine lies: block, shift, how many cells from there on -/
structure Loc where
  b : Nat
  s : Nat
  e : Nat
abbrev Map := Nat → Option Loc

inductive AV where
  | b (x : Bool) | i (k : IntKind) (n : Int) | s (n x : Nat)
  | p (id off : Nat) | np
  | sl (id off len : Nat) (cap : Option Nat) (es pre : Nat) | nsl
  | mp (id : Nat) | nmp
  | fn (f : Fn) (fst cap : List AV) | nfn
  | ifc (t : TypeId) (v : AV) | nifc
  | ag (l : List AV) | tp (l : List AV) | v (u : Value)
instance : Inhabited AV := ⟨.np⟩

/-- the bytes of a packed text -/
def unp : Nat → Nat → List UInt8
  | 0, _ => []
  | n + 1, x => UInt8.ofNat (x % 256) :: unp n (x / 256)
def pkb : List UInt8 → Nat
  | [] => 0
  | b :: l => b.toNat + 256 * pkb l

theorem unp_length : ∀ n x, (unp n x).length = n
  | 0, _ => rfl
  | n + 1, x => by simp [unp, unp_length n]
theorem unp_pkb : ∀ l : List UInt8, unp l.length (pkb l) = l
  | [] => rfl
  | b :: l => by
    have h : b.toNat < 256 := b.toNat_lt
    have h1 : (b.toNat + 256 * pkb l) % 256 = b.toNat := by omega
    have h2 : (b.toNat + 256 * pkb l) / 256 = pkb l := by omega
    simp [unp, pkb, h1, h2, unp_pkb l]
theorem pkb_lt : ∀ l : List UInt8, pkb l < 256 ^ l.length
  | [] => by simp [pkb]
  | b :: l => by
    have h : b.toNat < 256 := b.toNat_lt
    have := pkb_lt l
    simp only [pkb, List.length_cons, Nat.pow_succ]
    omega
theorem pow256 (n : Nat) : 256 ^ n = 2 ^ (8 * n) := by rw [Nat.pow_mul]
theorem unp_get : ∀ (n x i : Nat), i < n → (unp n x)[i]? = some (UInt8.ofNat ((x >>> (8 * i)) % 256))
  | 0, _, i, h => by omega
  | n + 1, x, 0, _ => by simp [unp]
  | n + 1, x, i + 1, h => by
    simp only [unp, List.getElem?_cons_succ]
    rw [unp_get n (x / 256) i (by omega)]
    congr 3
    rw [Nat.shiftRight_eq_div_pow, Nat.shiftRight_eq_div_pow, Nat.div_div_eq_div_mul, Nat.mul_add, Nat.pow_add, Nat.mul_comm]
theorem unp_drop : ∀ (n x l : Nat), (unp n x).drop l = unp (n - l) (x >>> (8 * l))
  | n, x, 0 => by simp
  | 0, x, l + 1 => by simp [unp]
  | n + 1, x, l + 1 => by
    simp only [unp, List.drop_succ_cons, Nat.succ_sub_succ]
    rw [unp_drop n (x / 256) l]
    congr 1
    rw [Nat.shiftRight_eq_div_pow, Nat.shiftRight_eq_div_pow, Nat.div_div_eq_div_mul, Nat.mul_add, Nat.pow_add, Nat.mul_comm]
theorem unp_take : ∀ (n x h : Nat), h ≤ n → (unp n x).take h = unp h (x % 2 ^ (8 * h))
  | n, x, 0, _ => by simp [unp]
  | 0, x, h + 1, hh => by omega
  | n + 1, x, h + 1, hh => by
    have e : x % 2 ^ (8 * (h + 1)) = x % (256 * 2 ^ (8 * h)) := by rw [Nat.mul_add, Nat.pow_add, Nat.mul_comm]
    simp only [unp, List.take_succ_cons]
    rw [unp_take n (x / 256) h (by omega), e]
    have e1 : x % (256 * 2 ^ (8 * h)) % 256 = x % 256 := Nat.mod_mul_right_mod x 256 _
    have e2 : x % (256 * 2 ^ (8 * h)) / 256 = x / 256 % 2 ^ (8 * h) := Nat.mod_mul_right_div_self x 256 _
    rw [e1, e2]
theorem unp_append : ∀ (n x m y : Nat), x < 256 ^ n → unp n x ++ unp m y = unp (n + m) (x + y <<< (8 * n))
  | 0, x, m, y, h => by
    have : x = 0 := by simpa using h
    subst this; simp [unp]
  | n + 1, x, m, y, h => by
    have e : y <<< (8 * (n + 1)) = 256 * (y <<< (8 * n)) := by
      rw [Nat.shiftLeft_eq, Nat.shiftLeft_eq, Nat.mul_add, Nat.pow_add]
      have : (2 : Nat) ^ (8 * 1) = 256 := rfl
      rw [this, ← Nat.mul_assoc, Nat.mul_comm]
    have hx : x / 256 < 256 ^ n := by rw [Nat.pow_succ] at h; omega
    have e1 : (x + 256 * (y <<< (8 * n))) % 256 = x % 256 := by omega
    have e2 : (x + 256 * (y <<< (8 * n))) / 256 = x / 256 + y <<< (8 * n) := by omega
    rw [show n + 1 + m = (n + m) + 1 by omega]
    simp only [unp, List.cons_append]
    rw [unp_append n (x / 256) m y hx, e, e1, e2]
theorem unp_inj : ∀ (n x y : Nat), x < 256 ^ n → y < 256 ^ n → unp n x = unp n y → x = y
  | 0, x, y, hx, hy, _ => by simp at hx hy; omega
  | n + 1, x, y, hx, hy, h => by
    simp only [unp, List.cons.injEq] at h
    have h1 : x % 256 = y % 256 := by
      have := congrArg UInt8.toNat h.1
      simpa [UInt8.toNat_ofNat'] using this
    have h2 := unp_inj n (x / 256) (y / 256) (by rw [Nat.pow_succ] at hx; omega) (by rw [Nat.pow_succ] at hy; omega) h.2
    omega

/-- a value that is not looked at: a number, a text, a truth -/
def onecV : Value → Bool
  | .int _ _ => true
  | .string _ => true
  | .bool _ => true
  | _ => false
mutual
def cvo (m : Map) : AV → Option Value
  | .b x => some (.bool x)
  | .i k n => some (.int k n)
  | .s n x => if x < 256 ^ n then some (.string ⟨(unp n x).toArray⟩) else none
  | .p id off => (m id).map fun L => .pointer (some ⟨L.b, L.s + off, none⟩)
  | .np => some (.pointer none)
  | .sl id off len cap es pre => (m id).bind fun L =>
      if len ≤ cap.getD ((L.e - off) / es) ∧ 0 < es ∧ off + cap.getD ((L.e - off) / es) * es ≤ L.e then
        some (.slice (some ⟨L.b, L.s + off - (if cap.getD ((L.e - off) / es) = 0 then pre else 0), none⟩) len (cap.getD ((L.e - off) / es))) else none
  | .nsl => some (.slice none 0 0)
  | .mp id => (m id).map fun L => .map (some L.b)
  | .nmp => some (.map none)
  | .fn f a c => (cvs m a).bind fun a => (cvs m c).map fun c => .func f a.toArray c.toArray
  | .nfn => some .nilFunc
  | .ifc t v => (cvo m v).map (.iface t)
  | .nifc => some .nilIface
  | .ag l => (cvs m l).map fun l => .agg l.toArray
  | .tp l => (cvs m l).map fun l => .tuple l.toArray
  | .v u => if onecV u = true then some u else none
def cvs (m : Map) : List AV → Option (List Value)
  | [] => some []
  | a :: l => (cvo m a).bind fun v => (cvs m l).map (v :: ·)
end

def Ext (m m' : Map) : Prop := ∀ id L, m id = some L → m' id = some L

mutual
theorem cvo_mono {m m' : Map} (h : Ext m m') : ∀ (a : AV) {v : Value}, cvo m a = some v → cvo m' a = some v
  | .b x, v, hv => by simpa [cvo] using hv
  | .i k n, v, hv => by simpa [cvo] using hv
  | .s n x, v, hv => by simpa [cvo] using hv
  | .p id off, v, hv => by
    simp only [cvo, Option.map_eq_some_iff] at hv ⊢
    obtain ⟨L, h1, h2⟩ := hv
    exact ⟨L, h _ _ h1, h2⟩
  | .np, v, hv => by simpa [cvo] using hv
  | .sl id off len cap es pre, v, hv => by
    simp only [cvo, Option.bind_eq_some_iff] at hv ⊢
    obtain ⟨L, h1, h2⟩ := hv
    exact ⟨L, h _ _ h1, h2⟩
  | .nsl, v, hv => by simpa [cvo] using hv
  | .mp id, v, hv => by
    simp only [cvo, Option.map_eq_some_iff] at hv ⊢
    obtain ⟨L, h1, h2⟩ := hv
    exact ⟨L, h _ _ h1, h2⟩
  | .nmp, v, hv => by simpa [cvo] using hv
  | .fn f a c, v, hv => by
    simp only [cvo, Option.bind_eq_some_iff, Option.map_eq_some_iff] at hv ⊢
    obtain ⟨a', h1, c', h2, h3⟩ := hv
    exact ⟨a', cvs_mono h a h1, c', cvs_mono h c h2, h3⟩
  | .nfn, v, hv => by simpa [cvo] using hv
  | .ifc t x, v, hv => by
    simp only [cvo, Option.map_eq_some_iff] at hv ⊢
    obtain ⟨L, h1, h2⟩ := hv
    exact ⟨L, cvo_mono h x h1, h2⟩
  | .nifc, v, hv => by simpa [cvo] using hv
  | .ag l, v, hv => by
    simp only [cvo, Option.map_eq_some_iff] at hv ⊢
    obtain ⟨L, h1, h2⟩ := hv
    exact ⟨L, cvs_mono h l h1, h2⟩
  | .tp l, v, hv => by
    simp only [cvo, Option.map_eq_some_iff] at hv ⊢
    obtain ⟨L, h1, h2⟩ := hv
    exact ⟨L, cvs_mono h l h1, h2⟩
  | .v u, v, hv => by simpa only [cvo] using hv
theorem cvs_mono {m m' : Map} (h : Ext m m') : ∀ (l : List AV) {vs : List Value}, cvs m l = some vs → cvs m' l = some vs
  | [], vs, hv => by simpa [cvs] using hv
  | a :: l, vs, hv => by
    simp only [cvs, Option.bind_eq_some_iff, Option.map_eq_some_iff] at hv ⊢
    obtain ⟨v, h1, vs', h2, h3⟩ := hv
    exact ⟨v, cvo_mono h a h1, vs', cvs_mono h l h2, h3⟩
end

theorem cvs_cons {m : Map} {a : AV} {l : List AV} {vs : List Value} : cvs m (a :: l) = some vs ↔ ∃ v vs', cvo m a = some v ∧ cvs m l = some vs' ∧ vs = v :: vs' := by
  simp only [cvs, Option.bind_eq_some_iff, Option.map_eq_some_iff]
  constructor
  · rintro ⟨v, h1, vs', h2, h3⟩; exact ⟨v, vs', h1, h2, h3.symm⟩
  · rintro ⟨v, vs', h1, h2, h3⟩; exact ⟨v, h1, vs', h2, h3.symm⟩
theorem cvs_length {m : Map} : ∀ {l : List AV} {vs : List Value}, cvs m l = some vs → vs.length = l.length
  | [], vs, h => by simp [cvs] at h; subst h; rfl
  | a :: l, vs, h => by
    obtain ⟨v, vs', _, h2, rfl⟩ := cvs_cons.1 h
    simp [cvs_length h2]
theorem cvs_get {m : Map} : ∀ {l : List AV} {vs : List Value} {i : Nat} {a : AV}, cvs m l = some vs → l[i]? = some a → ∃ v, vs[i]? = some v ∧ cvo m a = some v
  | [], vs, i, a, h, hi => by simp at hi
  | b :: l, vs, 0, a, h, hi => by
    obtain ⟨v, vs', h1, h2, rfl⟩ := cvs_cons.1 h
    simp at hi; subst hi
    exact ⟨v, rfl, h1⟩
  | b :: l, vs, i + 1, a, h, hi => by
    obtain ⟨v, vs', h1, h2, rfl⟩ := cvs_cons.1 h
    rw [List.getElem?_cons_succ] at hi
    obtain ⟨u, h3, h4⟩ := cvs_get h2 hi
    exact ⟨u, by rw [List.getElem?_cons_succ]; exact h3, h4⟩
theorem cvs_drop {m : Map} : ∀ {l : List AV} {vs : List Value} (n : Nat), cvs m l = some vs → cvs m (l.drop n) = some (vs.drop n)
  | l, vs, 0, h => by simpa using h
  | [], vs, n + 1, h => by simp [cvs] at h; subst h; simp [cvs]
  | a :: l, vs, n + 1, h => by
    obtain ⟨v, vs', h1, h2, rfl⟩ := cvs_cons.1 h
    simpa using cvs_drop n h2
theorem cvs_take {m : Map} : ∀ {l : List AV} {vs : List Value} (n : Nat), cvs m l = some vs → cvs m (l.take n) = some (vs.take n)
  | l, vs, 0, h => by simp [cvs]
  | [], vs, n + 1, h => by simp [cvs] at h; subst h; simp [cvs]
  | a :: l, vs, n + 1, h => by
    obtain ⟨v, vs', h1, h2, rfl⟩ := cvs_cons.1 h
    simp only [List.take_succ_cons]
    exact cvs_cons.2 ⟨v, _, h1, cvs_take n h2, rfl⟩
theorem cvs_append {m : Map} : ∀ {l k : List AV} {vs us : List Value}, cvs m l = some vs → cvs m k = some us → cvs m (l ++ k) = some (vs ++ us)
  | [], k, vs, us, h, hk => by simp [cvs] at h; subst h; simpa using hk
  | a :: l, k, vs, us, h, hk => by
    obtain ⟨v, vs', h1, h2, rfl⟩ := cvs_cons.1 h
    exact cvs_cons.2 ⟨v, _, h1, cvs_append h2 hk, rfl⟩
theorem cvs_set {m : Map} : ∀ {l : List AV} {vs : List Value} (i : Nat) {a : AV} {u : Value}, cvs m l = some vs → cvo m a = some u → cvs m (l.set i a) = some (vs.set i u)
  | [], vs, i, a, u, h, ha => by simp [cvs] at h; subst h; simp [cvs]
  | b :: l, vs, 0, a, u, h, ha => by
    obtain ⟨v, vs', h1, h2, rfl⟩ := cvs_cons.1 h
    exact cvs_cons.2 ⟨u, vs', ha, h2, rfl⟩
  | b :: l, vs, i + 1, a, u, h, ha => by
    obtain ⟨v, vs', h1, h2, rfl⟩ := cvs_cons.1 h
    exact cvs_cons.2 ⟨v, _, h1, cvs_set i h2 ha, rfl⟩
theorem cvs_replicate {m : Map} {a : AV} {u : Value} (h : cvo m a = some u) : ∀ n, cvs m (List.replicate n a) = some (List.replicate n u)
  | 0 => rfl
  | n + 1 => cvs_cons.2 ⟨u, _, h, cvs_replicate h n, rfl⟩

/-- blocks -/
inductive Blk where
  | cells (t : TypeId) (cs : List AV) (fz : Nat) (ex : Bool)
  | map (es : List (AV × AV × Nat)) (ck : Nat)
  | it (n x pos : Nat)

inductive F2 {α β : Type} (r : α → β → Prop) : List α → List β → Prop
  | nil : F2 r [] []
  | cons {a b l k} : r a b → F2 r l k → F2 r (a :: l) (b :: k)
def EntOk (m : Map) (x : AV × AV × Nat) (e : MapEntry) : Prop := cvo m x.1 = some e.key ∧ cvo m x.2.1 = some e.val ∧ e.born = x.2.2

def Holds (m : Map) (w : World) (id : Nat) : Blk → Prop
  | .cells t cs fz ex => ∃ L c fr vs, m id = some L ∧ w.heap[L.b]? = some (.cells c t fr) ∧ L.s + L.e ≤ c.size ∧ cs.length ≤ L.e ∧ cvs m cs = some vs ∧
      (∀ i v, vs[i]? = some v → c[L.s + i]? = some v) ∧ (∀ i, fz ≤ i → i < L.e → ¬ (fr.1 ≤ L.s + i ∧ L.s + i < fr.2)) ∧ (ex = true → L.s = 0 ∧ c.size = cs.length)
  | .map es ck => ∃ L es', m id = some L ∧ w.heap[L.b]? = some (.map es' ck) ∧ F2 (EntOk m) es es'.toList
  | .it n x pos => ∃ L, m id = some L ∧ w.heap[L.b]? = some (.stringIter ⟨(unp n x).toArray⟩ pos) ∧ x < 256 ^ n ∧ L.s = 0

abbrev Lk := Nat → Option Blk

structure R (lk : Lk) (m : Map) (w : World) : Prop where
  holds : ∀ id b, lk id = some b → Holds m w id b
  inj : ∀ id id' b b' L L', lk id = some b → lk id' = some b' → m id = some L → m id' = some L' → L.b = L'.b → id = id'

theorem Holds.loc {m : Map} {w : World} {id : Nat} {b : Blk} (h : Holds m w id b) : ∃ L, m id = some L ∧ L.b < w.heap.size := by
  cases b <;> simp only [Holds] at h
  · obtain ⟨L, c, fr, vs, h1, h2, _⟩ := h
    exact ⟨L, h1, (Array.getElem?_eq_some_iff.1 h2).1⟩
  · obtain ⟨L, es', h1, h2, _⟩ := h
    exact ⟨L, h1, (Array.getElem?_eq_some_iff.1 h2).1⟩
  · obtain ⟨L, h1, h2, _⟩ := h
    exact ⟨L, h1, (Array.getElem?_eq_some_iff.1 h2).1⟩
theorem EntOk.mono {m m' : Map} (h : Ext m m') {x : AV × AV × Nat} {e : MapEntry} (he : EntOk m x e) : EntOk m' x e :=
  ⟨cvo_mono h _ he.1, cvo_mono h _ he.2.1, he.2.2⟩
theorem forall2_mono {α β : Type} {r r' : α → β → Prop} (h : ∀ a b, r a b → r' a b) : ∀ {l : List α} {k : List β}, F2 r l k → F2 r' l k
  | _, _, .nil => .nil
  | _, _, .cons h1 h2 => .cons (h _ _ h1) (forall2_mono h h2)
theorem Holds.mono {m m' : Map} {w w' : World} {id : Nat} {b : Blk} (he : Ext m m') (hw : ∀ L, m id = some L → w'.heap[L.b]? = w.heap[L.b]?) (h : Holds m w id b) : Holds m' w' id b := by
  cases b <;> simp only [Holds] at h ⊢
  · obtain ⟨L, c, fr, vs, h1, h2, h3, h4, h5, h6, h7⟩ := h
    exact ⟨L, c, fr, vs, he _ _ h1, (hw L h1).trans h2, h3, h4, cvs_mono he _ h5, h6, h7⟩
  · obtain ⟨L, es', h1, h2, h3⟩ := h
    exact ⟨L, es', he _ _ h1, (hw L h1).trans h2, forall2_mono (fun _ _ => EntOk.mono he) h3⟩
  · obtain ⟨L, h1, h2, h3⟩ := h
    exact ⟨L, he _ _ h1, (hw L h1).trans h2, h3⟩

/-- a tree by numbers, four ways at a knot -/
inductive T (α : Type) where
  | vl (v : Option α)
  | nd (a b c d : T α)
noncomputable def T.get {α : Type} (t : T α) : Nat → Option α :=
  T.rec (fun v n => Bool.rec none v (Nat.beq n 0)) (fun _ _ _ _ ga gb gc gd n => Bool.rec (Bool.rec gd gc (Nat.beq (Nat.mod n 4) 2) (Nat.div n 4)) (Bool.rec gb ga (Nat.beq (Nat.mod n 4) 0) (Nat.div n 4)) (Nat.ble (Nat.mod n 4) 1)) t
noncomputable def T.put {α : Type} (x : Option α) (t : T α) : Nat → T α :=
  T.rec (fun v n => Bool.rec (.vl v) (.vl x) (Nat.beq n 0)) (fun a b c d ga gb gc gd n => Bool.rec (Bool.rec (.nd a b c (gd (Nat.div n 4))) (.nd a b (gc (Nat.div n 4)) d) (Nat.beq (Nat.mod n 4) 2)) (Bool.rec (.nd a (gb (Nat.div n 4)) c d) (.nd (ga (Nat.div n 4)) b c d) (Nat.beq (Nat.mod n 4) 0)) (Nat.ble (Nat.mod n 4) 1)) t
noncomputable def full (α : Type) (n : Nat) : T α := Nat.rec (.vl none) (fun _ t => .nd t t t t) n

theorem bq {a b : Nat} (h : a = b) : Nat.beq a b = true := by rw [Nat.beq_eq]; exact h
theorem bqn {a b : Nat} (h : a ≠ b) : Nat.beq a b = false := by rw [Bool.eq_false_iff, Ne, Nat.beq_eq]; exact h
theorem bl {a b : Nat} (h : a ≤ b) : Nat.ble a b = true := by rw [Nat.ble_eq]; exact h
theorem bln {a b : Nat} (h : ¬ a ≤ b) : Nat.ble a b = false := by rw [Bool.eq_false_iff, Ne, Nat.ble_eq]; exact h
theorem T.get_vl {α : Type} (v : Option α) (n : Nat) : (T.vl v).get n = if n = 0 then v else none := by
  show Bool.rec (motive := fun _ => Option α) none v (Nat.beq n 0) = _
  by_cases h : n = 0
  · rw [bq h, if_pos h]
  · rw [bqn h, if_neg h]
theorem T.put_vl {α : Type} (x v : Option α) (n : Nat) : (T.vl v).put x n = if n = 0 then .vl x else .vl v := by
  show Bool.rec (motive := fun _ => T α) (.vl v) (.vl x) (Nat.beq n 0) = _
  by_cases h : n = 0
  · rw [bq h, if_pos h]
  · rw [bqn h, if_neg h]
theorem T.get_nd {α : Type} (a b c d : T α) (n : Nat) : (T.nd a b c d).get n = if n % 4 = 0 then a.get (n / 4) else if n % 4 = 1 then b.get (n / 4) else if n % 4 = 2 then c.get (n / 4) else d.get (n / 4) := by
  show Bool.rec (motive := fun _ => Option α) (Bool.rec (motive := fun _ => Nat → Option α) d.get c.get (Nat.beq (n % 4) 2) (n / 4)) (Bool.rec (motive := fun _ => Nat → Option α) b.get a.get (Nat.beq (n % 4) 0) (n / 4)) (Nat.ble (n % 4) 1) = _
  by_cases h0 : n % 4 = 0
  · rw [bl (by omega : n % 4 ≤ 1), bq h0, if_pos h0]
  · rw [if_neg h0]
    by_cases h1 : n % 4 = 1
    · rw [bl (by omega : n % 4 ≤ 1), bqn h0, if_pos h1]
    · rw [if_neg h1, bln (by omega : ¬ n % 4 ≤ 1)]
      by_cases h2 : n % 4 = 2
      · rw [bq h2, if_pos h2]
      · rw [bqn h2, if_neg h2]
theorem T.put_nd {α : Type} (x : Option α) (a b c d : T α) (n : Nat) : (T.nd a b c d).put x n = if n % 4 = 0 then .nd (a.put x (n / 4)) b c d else if n % 4 = 1 then .nd a (b.put x (n / 4)) c d else if n % 4 = 2 then .nd a b (c.put x (n / 4)) d else .nd a b c (d.put x (n / 4)) := by
  show Bool.rec (motive := fun _ => T α) (Bool.rec (motive := fun _ => T α) (.nd a b c (d.put x (n / 4))) (.nd a b (c.put x (n / 4)) d) (Nat.beq (n % 4) 2)) (Bool.rec (motive := fun _ => T α) (.nd a (b.put x (n / 4)) c d) (.nd (a.put x (n / 4)) b c d) (Nat.beq (n % 4) 0)) (Nat.ble (n % 4) 1) = _
  by_cases h0 : n % 4 = 0
  · rw [bl (by omega : n % 4 ≤ 1), bq h0, if_pos h0]
  · rw [if_neg h0]
    by_cases h1 : n % 4 = 1
    · rw [bl (by omega : n % 4 ≤ 1), bqn h0, if_pos h1]
    · rw [if_neg h1, bln (by omega : ¬ n % 4 ≤ 1)]
      by_cases h2 : n % 4 = 2
      · rw [bq h2, if_pos h2]
      · rw [bqn h2, if_neg h2]
/-- where a put lies, and the ways beside it -/
theorem T.get_put_nd {α : Type} (x : Option α) (a b c d : T α) (n k : Nat) (P : Option α → Prop)
    (h0 : n % 4 = 0 → k % 4 = 0 → P ((a.put x (n / 4)).get (k / 4))) (h1 : n % 4 = 1 → k % 4 = 1 → P ((b.put x (n / 4)).get (k / 4)))
    (h2 : n % 4 = 2 → k % 4 = 2 → P ((c.put x (n / 4)).get (k / 4))) (h3 : n % 4 = 3 → k % 4 = 3 → P ((d.put x (n / 4)).get (k / 4)))
    (hn : n % 4 ≠ k % 4 → P ((T.nd a b c d).get k)) : P (((T.nd a b c d).put x n).get k) := by
  rw [T.put_nd]
  rw [T.get_nd] at hn
  have hk : k % 4 = 0 ∨ k % 4 = 1 ∨ k % 4 = 2 ∨ k % 4 = 3 := by omega
  have hm : n % 4 = 0 ∨ n % 4 = 1 ∨ n % 4 = 2 ∨ n % 4 = 3 := by omega
  rcases hm with m | m | m | m <;> rcases hk with j | j | j | j <;> simp only [m, j, if_true, if_false, T.get_nd, reduceIte, Nat.reduceEqDiff] at hn ⊢ <;> first
    | exact h0 m j
    | exact h1 m j
    | exact h2 m j
    | exact h3 m j
    | exact hn (by decide)
theorem T.get_put_ne {α : Type} (x : Option α) : ∀ (t : T α) (n k : Nat), k ≠ n → (t.put x n).get k = t.get k
  | .vl v, n, k, h => by
    rw [T.put_vl]
    split
    · rw [T.get_vl, T.get_vl, if_neg (by omega), if_neg (by omega)]
    · rfl
  | .nd a b c d, n, k, h => by
    refine T.get_put_nd x a b c d n k (fun y => y = (T.nd a b c d).get k) ?_ ?_ ?_ ?_ (fun _ => rfl)
    · intro m j; rw [T.get_nd, if_pos j]; exact T.get_put_ne x a _ _ (by omega)
    · intro m j; rw [T.get_nd, if_neg (by omega), if_pos j]; exact T.get_put_ne x b _ _ (by omega)
    · intro m j; rw [T.get_nd, if_neg (by omega), if_neg (by omega), if_pos j]; exact T.get_put_ne x c _ _ (by omega)
    · intro m j; rw [T.get_nd, if_neg (by omega), if_neg (by omega), if_neg (by omega)]; exact T.get_put_ne x d _ _ (by omega)
theorem T.put_self {α : Type} (x : Option α) : ∀ (t : T α) (n : Nat), (t.put x n).get n = x ∨ ∀ y : Option α, (t.put y n).get n = none
  | .vl v, n => by
    by_cases h : n = 0
    · exact .inl (by rw [T.put_vl, if_pos h, T.get_vl, if_pos h])
    · exact .inr (fun y => by rw [T.put_vl, if_neg h, T.get_vl, if_neg h])
  | .nd a b c d, n => by
    have hm : n % 4 = 0 ∨ n % 4 = 1 ∨ n % 4 = 2 ∨ n % 4 = 3 := by omega
    rcases hm with m | m | m | m
    · rcases T.put_self x a (n / 4) with h | h
      · exact .inl (by rw [T.put_nd, if_pos m, T.get_nd, if_pos m]; exact h)
      · exact .inr (fun y => by rw [T.put_nd, if_pos m, T.get_nd, if_pos m]; exact h y)
    · have m0 : ¬ n % 4 = 0 := by omega
      rcases T.put_self x b (n / 4) with h | h
      · exact .inl (by rw [T.put_nd, if_neg m0, if_pos m, T.get_nd, if_neg m0, if_pos m]; exact h)
      · exact .inr (fun y => by rw [T.put_nd, if_neg m0, if_pos m, T.get_nd, if_neg m0, if_pos m]; exact h y)
    · have m0 : ¬ n % 4 = 0 := by omega
      have m1 : ¬ n % 4 = 1 := by omega
      rcases T.put_self x c (n / 4) with h | h
      · exact .inl (by rw [T.put_nd, if_neg m0, if_neg m1, if_pos m, T.get_nd, if_neg m0, if_neg m1, if_pos m]; exact h)
      · exact .inr (fun y => by rw [T.put_nd, if_neg m0, if_neg m1, if_pos m, T.get_nd, if_neg m0, if_neg m1, if_pos m]; exact h y)
    · have m0 : ¬ n % 4 = 0 := by omega
      have m1 : ¬ n % 4 = 1 := by omega
      have m2 : ¬ n % 4 = 2 := by omega
      rcases T.put_self x d (n / 4) with h | h
      · exact .inl (by rw [T.put_nd, if_neg m0, if_neg m1, if_neg m2, T.get_nd, if_neg m0, if_neg m1, if_neg m2]; exact h)
      · exact .inr (fun y => by rw [T.put_nd, if_neg m0, if_neg m1, if_neg m2, T.get_nd, if_neg m0, if_neg m1, if_neg m2]; exact h y)
theorem T.get_put_self {α : Type} (x : α) (t : T α) (n : Nat) {a : α} (h : (t.put (some x) n).get n = some a) : a = x := by
  rcases T.put_self (some x) t n with h1 | h1
  · rw [h1] at h; exact (Option.some.inj h).symm
  · rw [h1] at h; cases h
theorem T.get_put_none {α : Type} (t : T α) (n : Nat) : (t.put none n).get n = none := by
  rcases T.put_self none t n with h1 | h1
  · exact h1
  · exact h1 none
/-- whatever is found behind a put was put, or was there -/
theorem T.get_put {α : Type} (x : α) (t : T α) (n k : Nat) {a : α} (h : (t.put (some x) n).get k = some a) : (k = n ∧ a = x) ∨ (k ≠ n ∧ t.get k = some a) := by
  by_cases hk : k = n
  · subst hk; exact .inl ⟨rfl, T.get_put_self x t k h⟩
  · rw [T.get_put_ne _ _ _ _ hk] at h; exact .inr ⟨hk, h⟩
theorem T.put_lives {α : Type} (x y : α) (t : T α) (n : Nat) {a : α} (h : (t.put (some x) n).get n = some a) : (t.put (some y) n).get n ≠ none := by
  rcases T.put_self (some y) t n with h1 | h1
  · rw [h1]; exact fun h => by cases h
  · rw [h1] at h; cases h
/-- a place is there or not, whatever was put elsewhere -/
theorem T.lives_put {α : Type} (x y : α) (z : Option α) : ∀ (t : T α) (n k : Nat) {a : α}, ((t.put z k).put (some x) n).get n = some a → (t.put (some y) n).get n ≠ none
  | .vl v, n, k, a, h => by
    have h0 : n = 0 := by
      rw [T.put_vl] at h
      split at h <;> rw [T.put_vl] at h <;> (by_cases h0 : n = 0; exact h0; rw [if_neg h0, T.get_vl, if_neg h0] at h; cases h)
    rw [T.put_vl, if_pos h0, T.get_vl, if_pos h0]
    exact fun h => by cases h
  | .nd a b c d, n, k, r, h => by
    have key : ∀ (s s' : T α), (s' = s ∨ s' = s.put z (k / 4)) → (s'.put (some x) (n / 4)).get (n / 4) = some r → (∀ r, ((s.put z (k / 4)).put (some x) (n / 4)).get (n / 4) = some r → (s.put (some y) (n / 4)).get (n / 4) ≠ none) → (s.put (some y) (n / 4)).get (n / 4) ≠ none := by
      rintro s s' (rfl | rfl) h1 h2
      · exact T.put_lives x y s' _ h1
      · exact h2 _ h1
    have hm : n % 4 = 0 ∨ n % 4 = 1 ∨ n % 4 = 2 ∨ n % 4 = 3 := by omega
    have hk : k % 4 = 0 ∨ k % 4 = 1 ∨ k % 4 = 2 ∨ k % 4 = 3 := by omega
    rcases hm with m | m | m | m
    · have e : ((T.nd a b c d).put (some y) n).get n = (a.put (some y) (n / 4)).get (n / 4) := by simp [T.put_nd, T.get_nd, m]
      rw [e]
      refine key a (if k % 4 = 0 then a.put z (k / 4) else a) ?_ ?_ (fun r hr => T.lives_put x y z a _ _ hr)
      · split <;> simp
      · rcases hk with j | j | j | j <;> simp [T.put_nd, T.get_nd, m, j] at h ⊢ <;> exact h
    · have e : ((T.nd a b c d).put (some y) n).get n = (b.put (some y) (n / 4)).get (n / 4) := by simp [T.put_nd, T.get_nd, m]
      rw [e]
      refine key b (if k % 4 = 1 then b.put z (k / 4) else b) ?_ ?_ (fun r hr => T.lives_put x y z b _ _ hr)
      · split <;> simp
      · rcases hk with j | j | j | j <;> simp [T.put_nd, T.get_nd, m, j] at h ⊢ <;> exact h
    · have e : ((T.nd a b c d).put (some y) n).get n = (c.put (some y) (n / 4)).get (n / 4) := by simp [T.put_nd, T.get_nd, m]
      rw [e]
      refine key c (if k % 4 = 2 then c.put z (k / 4) else c) ?_ ?_ (fun r hr => T.lives_put x y z c _ _ hr)
      · split <;> simp
      · rcases hk with j | j | j | j <;> simp [T.put_nd, T.get_nd, m, j] at h ⊢ <;> exact h
    · have e : ((T.nd a b c d).put (some y) n).get n = (d.put (some y) (n / 4)).get (n / 4) := by simp [T.put_nd, T.get_nd, m]
      rw [e]
      refine key d (if k % 4 = 3 then d.put z (k / 4) else d) ?_ ?_ (fun r hr => T.lives_put x y z d _ _ hr)
      · split <;> simp
      · rcases hk with j | j | j | j <;> simp [T.put_nd, T.get_nd, m, j] at h ⊢ <;> exact h
end Am
