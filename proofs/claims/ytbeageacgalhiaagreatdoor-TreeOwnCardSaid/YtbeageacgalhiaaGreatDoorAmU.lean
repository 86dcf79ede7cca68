/- A machine for closed runs: the machine. No program in sight. -/
import Derived.Test.YtbeageacgalhiaaGreatDoorAmUq
set_option linter.unusedVariables false
set_option linter.unusedSimpArgs false
namespace Am
open Go
noncomputable section

inductive Out where
  | norm | exit (id : Nat) | ret
/-- how a run ends; where it was stopped -/
inductive Ex where
  | ok (o : Out) (e : Env) (S : St)
  | bad (l : List Nat)
inductive Rg where
  | ok (e : Env) (S : St)
  | bad (l : List Nat)
inductive Cl where
  | ok (v : AV) (S : St)
  | bad (l : List Nat)

/-- what is known of the program: which functions may be entered, which are none of Go's own text -/
structure Known where
  g : Nat
  enter : Nat → Bool
  ext : Nat → Nat
  mz : TypeId
  con : Nat → List AV → St → Option AV

def evoT : Operand → Known → Env → Option AV :=
  Operand.rec (motive := fun _ => Known → Env → Option AV) (fun t _ env => eget env t) (fun v _ _ => Option.rec (motive := fun _ => Option AV) none (fun a => some a) (konst v)) (fun g K _ => cnd (Nat.blt g K.g) (some (.p g 0)) none) (fun f _ _ => some (.fn (.func f) [] []))
def evo (K : Known) (env : Env) : Rho := fun x => evoT x K env
def aput (n : Nat) (env : Env) (d : Option Tmp) (v : AV) : Option Env :=
  Option.rec (motive := fun _ => Option Env) (some env) (fun d => cnd (Nat.blt d n) (some (eput env d v)) none) d

/-- an operation that calls no function -/
def aquiet (P : Program) (K : Known) (S : St) (ρ : Rho) (o : Op) : Option (AV × St) :=
  match apure P ρ o with
  | some v => some (v, S)
  | none => match ard P S.lk ρ o with
    | some v => some (v, S)
    | none => match aalloc P ρ o with
      | some (blk, f) => bif Nat.ble K.g S.nx then some (f S.nx, ⟨S.h.put (some blk) S.nx, Nat.succ S.nx⟩) else none
      | none => match awr P K.g S ρ o with
        | some (v, S') => bif Nat.ble S.nx S'.nx then some (v, S') else none
        | none => none
def app2 (a b : List AV) : List AV := List.rec b (fun x _ ih => x :: ih) a
/-- the function that is called, with its arguments -/
def acallee (ρ : Rho) (o : Op) : Option (FuncId × List AV) :=
  match o with
  | .call c => match c.callee with
    | .value x => match ρ x, amap ρ c.args.toList with
      | some (.fn (.func f) a b), some as => some (f, app2 a (app2 as b))
      | _, _ => none
    | _ => none
  | _ => none
def ienv (l : List AV) : Nat → Env → Env := List.rec (motive := fun _ => Nat → Env → Env) (fun _ e => e) (fun a _ go i e => go (Nat.succ i) (eput e i a)) l
theorem ienv_nil (i : Nat) (e : Env) : ienv [] i e = e := rfl
theorem ienv_cons (a : AV) (l : List AV) (i : Nat) (e : Env) : ienv (a :: l) i e = ienv l (Nat.succ i) (eput e i a) := rfl
def ares1 (P : Program) (K : Known) (env : Env) (S : St) : ResultVar → Option AV
  | .tmp t => eget env t
  | .cell a t => match eget env a with
    | some (.p id off) => match S.h.get id with
      | some (.cells _ cs _ _) => ald P t cs off
      | _ => none
    | _ => none
def aressT : List ResultVar → Program → Known → Env → St → Option (List AV) :=
  List.rec (motive := fun _ => Program → Known → Env → St → Option (List AV)) (fun _ _ _ _ => some []) (fun r _ ih P K env S => obl (ares1 P K env S r) (ih P K env S))
def aress (P : Program) (K : Known) (env : Env) (S : St) (l : List ResultVar) : Option (List AV) := aressT l P K env S
def onet : List AV → AV := List.rec (motive := fun _ => AV) (.tp []) (fun a l _ => List.rec (motive := fun _ => AV → AV) (fun a => a) (fun b l _ a => .tp (a :: b :: l)) l a)
def ares (P : Program) (K : Known) (env : Env) (S : St) (l : List ResultVar) : Option AV := Option.rec (motive := fun _ => Option AV) none (fun l => some (onet l)) (aress P K env S l)

/-- functions that are none of Go's text -/
def aibs (c : Nat) (n : Nat) : Nat → Nat → Int := Nat.rec (fun _ _ => -1) (fun _ ih x i => bif Nat.beq (Nat.mod x 256) c then .ofNat i else ih (Nat.div x 256) (Nat.succ i)) n
def aextern (P : Program) (K : Known) (S : St) (k : Nat) (as : List AV) : Option (AV × St) :=
  match k, as with
  | 1, [.s n x, .i .u8 (.ofNat c)] => bif Nat.blt c 256 then some (.i .i64 (aibs c n x 0), S) else none
  | 2, [a] => some (a, S)
  | 3, [.i .i64 (.ofNat n)] => match und P K.mz with
    | some (.slice e) => bif Nat.ble K.g S.nx && Nat.ble n 1073741824 then some (.sl S.nx 0 n none 1 0, ⟨S.h.put (some (.cells e [] 0 false)) S.nx, Nat.succ S.nx⟩) else none
    | _ => none
  | _, _ => none

/-- a function that is none of Go's text, or one of which a contract is known: it turns nothing that was there -/
def aext (P : Program) (K : Known) (S : St) (f : FuncId) (as : List AV) : Option (AV × St) :=
  match aextern P K S (K.ext f) as with
  | some p => some p
  | none => match K.con (K.ext f) as S with
    | some v => some (v, S)
    | none => none
def acallf (P : Program) (K : Known) (ih : Code → Nat → Env → St → Ex) (S : St) (f : FuncId) (as : List AV) : Cl :=
  bif K.enter f then
    match fnc P f with
    | none => .bad [f]
    | some fn => match fn.body with
      | none => .bad [f]
      | some c => bif Nat.ble (len as) fn.ntmps then
          match ih c fn.ntmps (ienv as 0 enew) S with
          | .bad l => .bad (f :: l)
          | .ok .norm env S' => match ares P K env S' fn.results.toList with
            | some v => .ok v S'
            | none => .bad [f, 777]
          | .ok .ret env S' => match ares P K env S' fn.results.toList with
            | some v => .ok v S'
            | none => .bad [f, 778]
          | .ok (.exit _) _ _ => .bad [f, 779]
        else .bad [f, 780]
  else match aext P K S f as with
    | some (v, S') => .ok v S'
    | none => .bad [f, 781]

def aop0 (P : Program) (K : Known) (ih : Code → Nat → Env → St → Ex) (S : St) (ρ : Rho) (o : Op) : Cl :=
  match aquiet P K S ρ o with
  | some (v, S') => .ok v S'
  | none => match acallee ρ o with
    | some (f, as) => acallf P K ih S f as
    | none => .bad []
def clo (S : St) (x : Option AV) (g : Cl) : Cl := Option.rec g (fun v => .ok v S) x
def cls (x : Option St) : Cl := Option.rec (motive := fun _ => Cl) (.bad []) (fun S => .ok (.tp []) S) x
def acall : Call → Program → Known → (Code → Nat → Env → St → Ex) → St → Rho → Cl :=
  Call.rec (motive := fun _ => Program → Known → (Code → Nat → Env → St → Ex) → St → Rho → Cl) (fun ce => Callee.rec (motive := fun _ => Array Operand → Array TypeId → Program → Known → (Code → Nat → Env → St → Ex) → St → Rho → Cl) (fun _ _ _ _ _ _ _ _ => .bad []) (fun _ _ _ _ _ _ _ _ _ => .bad []) (fun b args tys P K ih S ρ => clo S (qbul P ρ b args tys) (aop0 P K ih S ρ (.call ⟨.builtin b, args, tys⟩))) ce)
def aopT : Op → Program → Known → (Code → Nat → Env → St → Ex) → St → Rho → Cl :=
  Op.rec (motive := fun _ => Program → Known → (Code → Nat → Env → St → Ex) → St → Rho → Cl)
    (fun x P K ih S ρ => clo S (ρ x) (.bad [])) (fun x P K ih S ρ => clo S (ρ x) (.bad [])) (fun c a b P K ih S ρ => clo S (qpick ρ c a b) (.bad [])) (fun t P K ih S ρ => aop0 P K ih S ρ (.alloc t))
    (fun t x P K ih S ρ => aop0 P K ih S ρ (.box t x)) (fun t l P K ih S ρ => aop0 P K ih S ρ (.build t l)) (fun t n l P K ih S ρ => aop0 P K ih S ρ (.buildSlice t n l)) (fun t a b c P K ih S ρ => aop0 P K ih S ρ (.insert t a b c))
    (fun t x P K ih S ρ => clo S (qload P S ρ t x) (.bad [])) (fun t x v P K ih S ρ => cls (qsto P K.g S ρ t x v)) (fun _ _ _ _ _ _ => .bad []) (fun _ _ _ _ _ _ => .bad [])
    (fun x P K ih S ρ => clo S (qnil ρ x) (.bad [])) (fun op t x y _ P K ih S ρ => clo S (qbin P ρ op t x y) (.bad [])) (fun op t x P K ih S ρ => aop0 P K ih S ρ (.unOp op t x)) (fun s d x P K ih S ρ => clo S (qconv P ρ s d x) (aop0 P K ih S ρ (.convert s d x)))
    (fun _ _ _ _ _ _ _ => .bad []) (fun t x P K ih S ρ => aop0 P K ih S ρ (.makeInterface t x)) (fun f a b P K ih S ρ => aop0 P K ih S ρ (.makeFunc f a b)) (fun t x P K ih S ρ => aop0 P K ih S ρ (.makeMap t x))
    (fun _ _ _ _ _ _ _ => .bad []) (fun t x y P K ih S ρ => aop0 P K ih S ρ (.makeSlice t x y)) (fun t x a b c P K ih S ρ => clo S (qsli P ρ t x a b c) (aop0 P K ih S ρ (.slice t x a b c))) (fun s x f P K ih S ρ => clo S (qfda P ρ s x f) (.bad []))
    (fun t x f P K ih S ρ => clo S (qfld P ρ t x f) (.bad [])) (fun t x i P K ih S ρ => clo S (qixa P ρ t x i) (.bad [])) (fun t x i P K ih S ρ => clo S (qidx P ρ t x i) (.bad [])) (fun t x k o P K ih S ρ => aop0 P K ih S ρ (.lookup t x k o))
    (fun t a b c P K ih S ρ => aop0 P K ih S ρ (.mapUpdate t a b c)) (fun t a b P K ih S ρ => aop0 P K ih S ρ (.mapEntry t a b)) (fun t a b c P K ih S ρ => aop0 P K ih S ρ (.entryStore t a b c)) (fun t x P K ih S ρ => aop0 P K ih S ρ (.range t x))
    (fun x b P K ih S ρ => aop0 P K ih S ρ (.next x b)) (fun _ _ _ _ _ _ => .bad []) (fun _ _ _ _ _ _ _ _ _ => .bad []) (fun x i P K ih S ρ => clo S (qext ρ x i) (.bad []))
    (fun c P K ih S ρ => acall c P K ih S ρ) (fun _ _ _ _ _ _ => .bad []) (fun _ _ _ _ _ _ => .bad []) (fun _ _ _ _ _ _ => .bad [])
    (fun _ _ _ _ _ _ _ => .bad []) (fun _ _ _ _ _ _ _ _ => .bad []) (fun _ _ _ _ _ _ _ => .bad [])
def aop (P : Program) (K : Known) (ih : Code → Nat → Env → St → Ex) (S : St) (ρ : Rho) (o : Op) : Cl := aopT o P K ih S ρ
def awant1 (all : List Oper) (env : Env) (j : Nat) (w : Bool) : Option Bool :=
  match nth all j with
  | some oj => match oj.dst with
    | some t => match eget env t with
      | some (.b x) => some (x == w)
      | some (.tp _) => some false
      | _ => none
    | none => none
  | none => none
def awant (all : List Oper) (env : Env) (o : Oper) : Option Bool :=
  Option.rec (motive := fun _ => Option Bool) (some true) (fun g => awant1 all env g.1 g.2) o.guard
abbrev IH := Code → Nat → Env → St → Ex
abbrev Draw := IH → Array Oper → Nat → Nat → Env → St → Rg
end
end Am
