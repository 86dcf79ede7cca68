/- A machine for closed runs: a region whose order is drawn: how it is reckoned. No program in sight. -/
import Derived.Test.YtbeageacgalhiaaGreatDoorAmX
set_option linter.unusedVariables false
set_option linter.unusedSimpArgs false
namespace Am
open Go
noncomputable section

def tb (m i : Nat) : Bool := Nat.beq (Nat.mod (Nat.shiftRight m i) 2) 1
theorem tb_eq (m i : Nat) : tb m i = m.testBit i := by
  rw [Bool.eq_iff_iff, tb, Nat.beq_eq, Nat.testBit_eq_decide_div_mod_eq, decide_eq_true_iff]
  show (m >>> i) % 2 = 1 ↔ _
  rw [Nat.shiftRight_eq_div_pow]
def mk1 (acc : List Nat) (o : Oper) : Nat :=
  o.after.toList.foldl (fun s e => bif Region.binds .any e then Nat.lor s (Nat.lor (Nat.shiftLeft 1 e.on) ((nth acc e.on).getD 0)) else s) 0
def mks : List Oper → List Nat → List Nat
  | [], acc => acc
  | o :: l, acc => mks l (acc ++ [mk1 acc o])
def stW : Op → Bool
  | .store .. => true
  | .mapUpdate .. => true
  | .insert .. => true
  | .mapEntry .. => true
  | .entryStore .. => true
  | .range .. => true
  | .next .. => true
  | .call c => match c.callee with
    | .builtin b => match b with
      | .len => false
      | .cap => false
      | .max => false
      | .min => false
      | .unsafeSliceData => false
      | _ => true
    | _ => true
  | _ => false
def memb (x : Nat) (l : List Nat) : Bool := List.rec false (fun a _ ih => Nat.beq x a || ih) l
def mOf (M : List Nat) (i : Nat) : Nat := (nth M i).getD 0
def optT (d : Option Tmp) : List Tmp := match d with
  | some t => [t]
  | none => []
def tsOf (ops : Array Oper) (o : Oper) : List Tmp := o.looksAt ops ++ optT o.dst
def dstIs (all : List Oper) (y t : Nat) : Bool := match nth all y with
  | some o => match o.dst with
    | some d => Nat.beq d t
    | none => false
  | none => false
def posOk (ops : Array Oper) (M : List Nat) (pre : List Nat) (x : Nat) (post : List Nat) : Bool :=
  match nth ops.toList x with
  | none => false
  | some o => ((bif stW o.op then pre.all (fun y => tb (mOf M x) y) else true) &&
      (o.after.toList.all (fun e => bif Region.binds .any e then memb e.on pre else true) && !(memb x pre))) &&
      (tsOf ops o).all (fun t => pre.all (fun y => bif dstIs ops.toList y t then tb (mOf M x) y else true) && post.all (fun y => bif dstIs ops.toList y t then tb (mOf M y) x else true))
def chkPos (ops : Array Oper) (M : List Nat) : List Nat → List Nat → Bool
  | _, [] => true
  | pre, x :: post => posOk ops M pre x post && chkPos ops M (x :: pre) post
def ordW (M : List Nat) (n : Nat) (acc : List Nat) (w : Nat) : List Nat :=
  acc ++ ((List.range n).filter (fun i => tb (mOf M w) i && !(memb i acc)) ++ [w])
def ordOf (ops : List Oper) (M : List Nat) : List Nat :=
  let n := len ops
  let ws := (List.range n).filter (fun i => match nth ops i with
    | some o => stW o.op
    | none => false)
  let acc := ws.foldl (ordW M n) []
  acc ++ (List.range n).filter (fun i => !(memb i acc))
def stat2 (ops : Array Oper) (M ord : List Nat) : Option (List Nat × List Nat) :=
  bif (Nat.beq (len ord) (len ops.toList) && (List.range (len ops.toList)).all (fun j => memb j ord)) && chkPos ops M [] ord then some (ord, M) else none
/-- the order in which a region is reckoned, and what stands before what -/
def stat (ops : Array Oper) : Option (List Nat × List Nat) :=
  stat2 ops (mks ops.toList []) (ordOf ops.toList (mks ops.toList []))

structure Rec where
  i : Nat
  o : Oper
  env : Env
  S : St
  v : AV
  k : Nat
  S' : St
  blk : Blk
inductive Kl where
  | ok (k : Nat) (v : AV) (S : St) (b : Blk)
  | bad (l : List Nat)
def aopk (P : Program) (K : Known) (ih : Code → Nat → Env → St → Ex) (S : St) (ρ : Rho) (o : Op) : Kl :=
  match apure P ρ o with
  | some v => .ok 0 v S (.it 0 0 0)
  | none => match ard P S.lk ρ o with
    | some v => .ok 1 v S (.it 0 0 0)
    | none => match aalloc P ρ o with
      | some (blk, f) => bif Nat.ble K.g S.nx then .ok 2 (f S.nx) ⟨S.h.put (some blk) S.nx, Nat.succ S.nx⟩ blk else .bad [701]
      | none => match awr P K.g S ρ o with
        | some (v, S') => bif Nat.ble S.nx S'.nx then .ok 3 v S' (.it 0 0 0) else .bad [702]
        | none => match acallee ρ o with
          | some (f, as) => match acallf P K ih S f as with
            | .ok v S' => .ok 3 v S' (.it 0 0 0)
            | .bad l => .bad l
          | none => .bad [703]
def rstR (ts : List Tmp) (ρ : Rho) : Rho
  | .tmp t => bif memb t ts then ρ (.tmp t) else none
  | x => ρ x
inductive Rn where
  | ok (l : List Rec) (e : Env) (S : St)
  | bad (l : List Nat)
def arun (P : Program) (K : Known) (ih : Code → Nat → Env → St → Ex) (ops : Array Oper) (n id : Nat) : List Nat → Env → St → Rn
  | [], env, S => .ok [] env S
  | i :: ord, env, S => match nth ops.toList i with
    | none => .bad [id, i, 711]
    | some o => match awant ops.toList env o with
      | some true => match aopk P K ih S (rstR (o.looksAt ops) (evo K env)) o.op with
        | .ok k v S' b => bif (bif Nat.beq k 3 then stW o.op else true) then
            (match aput n env o.dst v with
            | some env' => match arun P K ih ops n id ord env' S' with
              | .ok l e s => .ok (⟨i, o, env, S, v, k, S', b⟩ :: l) e s
              | .bad l => .bad l
            | none => .bad [id, i, 712]) else .bad [id, i, 713]
        | .bad l => .bad (id :: i :: l)
      | some false => match aput n env o.dst (.tp []) with
        | some env' => match arun P K ih ops n id ord env' S with
          | .ok l e s => .ok (⟨i, o, env, S, .tp [], 0, S, .it 0 0 0⟩ :: l) e s
          | .bad l => .bad l
        | none => .bad [id, i, 714]
      | none => .bad [id, i, 715]
mutual
def eqb : AV → AV → Bool
  | .b x, c => match c with
    | .b y => x == y
    | _ => false
  | .i k n, c => match c with
    | .i k' n' => keq k k' && ieq n n'
    | _ => false
  | .s n x, c => match c with
    | .s m y => Nat.beq n m && Nat.beq x y
    | _ => false
  | .p i o, c => match c with
    | .p j q => Nat.beq i j && Nat.beq o q
    | _ => false
  | .np, c => match c with
    | .np => true
    | _ => false
  | .sl i o n c e p, d => match d with
    | .sl i' o' n' c' e' p' => ((Nat.beq i i' && Nat.beq o o') && (Nat.beq n n' && Nat.beq e e')) && (Nat.beq p p' && (match c, c' with
      | none, none => true
      | some a, some b => Nat.beq a b
      | _, _ => false))
    | _ => false
  | .nsl, c => match c with
    | .nsl => true
    | _ => false
  | .mp i, c => match c with
    | .mp j => Nat.beq i j
    | _ => false
  | .nmp, c => match c with
    | .nmp => true
    | _ => false
  | .fn _ _ _, _ => false
  | .nfn, c => match c with
    | .nfn => true
    | _ => false
  | .nifc, c => match c with
    | .nifc => true
    | _ => false
  | .ifc t v, c => match c with
    | .ifc u w => Nat.beq t u && eqb v w
    | _ => false
  | .ag l, c => match c with
    | .ag k => eqbs l k
    | _ => false
  | .tp l, c => match c with
    | .tp k => eqbs l k
    | _ => false
  | .v _, _ => false
def eqbs : List AV → List AV → Bool
  | [], c => match c with
    | [] => true
    | _ => false
  | a :: l, c => match c with
    | b :: k => eqb a b && eqbs l k
    | _ => false
end
mutual
theorem eqb_ok : ∀ (a : AV) {b : AV}, eqb a b = true → a = b
  | .b x, b, h => by cases b <;> simp only [eqb, beq_iff_eq, Bool.false_eq_true] at h; rw [h]
  | .i k n, b, h => by
    cases b <;> simp only [eqb, Bool.and_eq_true, ieq_eq, beq_iff_eq, Bool.false_eq_true] at h
    rw [keq_eq h.1, h.2]
  | .s n x, b, h => by cases b <;> simp only [eqb, Bool.and_eq_true, Nat.beq_eq, Bool.false_eq_true] at h; rw [h.1, h.2]
  | .p i o, b, h => by cases b <;> simp only [eqb, Bool.and_eq_true, Nat.beq_eq, Bool.false_eq_true] at h; rw [h.1, h.2]
  | .np, b, h => by cases b <;> simp only [eqb, Bool.false_eq_true] at h; rfl
  | .sl i o n c e p, b, h => by
    cases b <;> simp only [eqb, Bool.and_eq_true, Nat.beq_eq, Bool.false_eq_true] at h
    rename_i i' o' n' c' e' p'
    obtain ⟨⟨⟨h1, h2⟩, h3, h4⟩, h5, h6⟩ := h
    subst h1 h2 h3 h4 h5
    cases c <;> cases c' <;> simp only [Nat.beq_eq, Bool.false_eq_true] at h6
    · rfl
    · rw [h6]
  | .nsl, b, h => by cases b <;> simp only [eqb, Bool.false_eq_true] at h; rfl
  | .mp i, b, h => by cases b <;> simp only [eqb, Nat.beq_eq, Bool.false_eq_true] at h; rw [h]
  | .nmp, b, h => by cases b <;> simp only [eqb, Bool.false_eq_true] at h; rfl
  | .fn _ _ _, b, h => by simp only [eqb, Bool.false_eq_true] at h
  | .nfn, b, h => by cases b <;> simp only [eqb, Bool.false_eq_true] at h; rfl
  | .nifc, b, h => by cases b <;> simp only [eqb, Bool.false_eq_true] at h; rfl
  | .ifc t v, b, h => by
    cases b <;> simp only [eqb, Bool.and_eq_true, Nat.beq_eq, Bool.false_eq_true] at h
    rw [h.1, eqb_ok v h.2]
  | .ag l, b, h => by cases b <;> simp only [eqb, Bool.false_eq_true] at h; rw [eqbs_ok l h]
  | .tp l, b, h => by cases b <;> simp only [eqb, Bool.false_eq_true] at h; rw [eqbs_ok l h]
  | .v _, b, h => by simp only [eqb, Bool.false_eq_true] at h
theorem eqbs_ok : ∀ (a : List AV) {b : List AV}, eqbs a b = true → a = b
  | [], b, h => by cases b <;> simp only [eqbs, Bool.false_eq_true] at h; rfl
  | a :: l, b, h => by
    cases b <;> simp only [eqbs, Bool.and_eq_true, Bool.false_eq_true] at h
    rw [eqb_ok a h.1, eqbs_ok l h.2]
end
def findB (mj : Nat) (id : Nat) : List Rec → Option Blk
  | [] => none
  | r :: B => bif (Nat.beq r.k 2 && tb mj r.i) && Nat.beq r.S.nx id then some r.blk else findB mj id B
def lookB (S : St) (B : List Rec) (mj : Nat) : Lk := fun id => match S.h.get id with
  | some b => some b
  | none => findB mj id B
def rd1 (P : Program) (K : Known) (ops : Array Oper) (M : List Nat) (r : Rec) (B : List Rec) (S : St) : Bool :=
  bif B.all (fun q => bif Nat.beq q.k 3 then !(tb (mOf M r.i) q.i) else true) then
    (match ard P (lookB S B (mOf M r.i)) (rstR (r.o.looksAt ops) (evo K r.env)) r.o.op with
    | some v => eqb v r.v
    | none => false) else true
def rdGo (P : Program) (K : Known) (ops : Array Oper) (M : List Nat) (r : Rec) : List Rec → Bool
  | [] => true
  | q :: B => bif Nat.beq q.k 3 then (bif tb (mOf M q.i) r.i then true else rd1 P K ops M r B q.S' && rdGo P K ops M r B) else rdGo P K ops M r B
def rdOk (P : Program) (K : Known) (ops : Array Oper) (M : List Nat) (L : List Rec) (S : St) : Bool :=
  L.all (fun r => bif Nat.beq r.k 1 then rd1 P K ops M r L S && rdGo P K ops M r L else true)
def adraw (P : Program) (K : Known) : Draw := fun ih ops n id env S =>
  match stat ops with
  | none => .bad [id, 721]
  | some (ord, M) => match arun P K ih ops n id ord env S with
    | .bad l => .bad l
    | .ok L e S' => bif rdOk P K ops M L S then .ok e S' else .bad [id, 722]
end
end Am
