/- A machine for closed runs: code, turned once into functions of the places and the memory. No program in sight. -/
import Derived.Test.YtbeageacgalhiaaGreatDoorAmY
set_option linter.unusedVariables false
set_option linter.unusedSimpArgs false
namespace Am
open Go
noncomputable section

inductive Box (α : Type) where
  | mk (a : α)
inductive Fin where
  | out (o : Out) (e : Env) (S : St)
  | bad (l : List Nat)
/-- what is done next, with the places, the tree, the memory -/
abbrev G := Nat → T AV → St → Fin
/-- how a body is run: its code, its places, what is done behind its end, behind a return -/
abbrev H := Code → Nat → G → G → G
inductive Fast where
  | no
  | yes (v r : Nat → T AV → St → Nat)
  | act (q : (H → G → G) → H → G → G)

/-! operands as numbers, and what of them lies in the tree -/
def kcode (K : Known) (x : Operand) : Nat := Option.rec 1 (fun v => ccap (enc v)) (evoT x K enew)
def ocB (K : Known) : Operand → Box (Nat → Nat)
  | .tmp t => .mk fun n => Nat.mod (Nat.shiftRight n (Nat.mul 192 t)) 6277101735386680763835789423207666416102355444464034512896
  | .const v => .mk fun _ => Nat.add (kcode K (.const v)) 0
  | .global g => .mk fun _ => Nat.add (kcode K (.global g)) 0
  | .func f => .mk fun _ => Nat.add (kcode K (.func f)) 0
def unB {α β : Type} (b : Box α) (f : α → β) : β := Box.rec f b
/-- the way to a place of the tree, so deep -/
def gP : Nat → Nat → Box (T AV → Option AV)
  | 0, d => .mk fun U => U.get d
  | k + 1, d => unB (gP k (d / 4)) fun g => match d % 4 with
    | 0 => .mk fun U => T.rec (motive := fun _ => Option AV) (fun v => Bool.rec none v (Nat.beq d 0)) (fun a _ _ _ _ _ _ _ => g a) U
    | 1 => .mk fun U => T.rec (motive := fun _ => Option AV) (fun v => Bool.rec none v (Nat.beq d 0)) (fun _ b _ _ _ _ _ _ => g b) U
    | 2 => .mk fun U => T.rec (motive := fun _ => Option AV) (fun v => Bool.rec none v (Nat.beq d 0)) (fun _ _ c _ _ _ _ _ => g c) U
    | _ => .mk fun U => T.rec (motive := fun _ => Option AV) (fun v => Bool.rec none v (Nat.beq d 0)) (fun _ _ _ e _ _ _ _ => g e) U
def pP : Nat → Nat → Box (Option AV → T AV → T AV)
  | 0, d => .mk fun x U => U.put x d
  | k + 1, d => unB (pP k (d / 4)) fun g => match d % 4 with
    | 0 => .mk fun x U => T.rec (motive := fun _ => T AV) (fun v => Bool.rec (.vl v) (.vl x) (Nat.beq d 0)) (fun a b c e _ _ _ _ => .nd (g x a) b c e) U
    | 1 => .mk fun x U => T.rec (motive := fun _ => T AV) (fun v => Bool.rec (.vl v) (.vl x) (Nat.beq d 0)) (fun a b c e _ _ _ _ => .nd a (g x b) c e) U
    | 2 => .mk fun x U => T.rec (motive := fun _ => T AV) (fun v => Bool.rec (.vl v) (.vl x) (Nat.beq d 0)) (fun a b c e _ _ _ _ => .nd a b (g x c) e) U
    | _ => .mk fun x U => T.rec (motive := fun _ => T AV) (fun v => Bool.rec (.vl v) (.vl x) (Nat.beq d 0)) (fun a b c e _ _ _ _ => .nd a b c (g x e)) U
def dep (n : Nat) : Nat := Nat.succ (Nat.div (Nat.log2 n) 2)
def bxB (K : Known) (nt : Nat) : Operand → Box (T AV → Option AV)
  | .tmp t => gP (dep nt) t
  | .const v => .mk fun _ => Option.rec (motive := fun _ => Option AV) none (fun a => some a) (evoT (.const v) K enew)
  | .global g => .mk fun _ => Option.rec (motive := fun _ => Option AV) none (fun a => some a) (evoT (.global g) K enew)
  | .func f => .mk fun _ => Option.rec (motive := fun _ => Option AV) none (fun a => some a) (evoT (.func f) K enew)
def tg (c : Nat) : Nat := Nat.mod c 32
def pl (c : Nat) : Nat := Nat.div c 32
/-- 0: it stands for a value -/
def vUn (c : Nat) : Nat := Nat.add (Nat.sub 2 (Nat.mod c 32)) (Nat.sub (Nat.mod c 32) 23)
/-- 0: a number that is not below zero -/
def vI (c : Nat) : Nat := Nat.add (Nat.sub 4 (Nat.mod c 32)) (Nat.sub (Nat.mod c 32) 11)
def vII (a b : Nat) : Nat := Nat.add (Nat.mod (Nat.xor a b) 32) (vI a)
/-- so many bits hold it, with the sign and without -/
def xlim (g : Nat) : Nat := Nat.sub (Nat.shiftLeft 8 (Nat.mod g 4)) (Nat.sub 1 (Nat.div g 8))
def xbits (g : Nat) : Nat := Nat.shiftLeft 8 (Nat.mod g 4)
def vlim (a r : Nat) : Nat := Nat.shiftRight r (xlim (Nat.mod a 32))
def tagI (a r : Nat) : Nat := Nat.add (Nat.mul 32 r) (Nat.mod a 32)
def bitC (x : Nat) : Nat := Nat.add 2 (Nat.mul 32 x)
def eq01 (a b : Nat) : Nat := Nat.sub 1 (Nat.add (Nat.sub a b) (Nat.sub b a))
def le01 (a b : Nat) : Nat := Nat.sub 1 (Nat.sub a b)
def lo2 (a b : Nat) : Nat := Nat.sub a (Nat.sub a b)

/-! two numbers -/
def fAdd (f g : Nat → Nat) : Fast := .yes (fun n _ _ => Nat.add (vII (f n) (g n)) (vlim (f n) (Nat.add (pl (f n)) (pl (g n))))) (fun n _ _ => tagI (f n) (Nat.add (pl (f n)) (pl (g n))))
def fSub (f g : Nat → Nat) : Fast := .yes (fun n _ _ => Nat.add (Nat.add (vII (f n) (g n)) (Nat.sub (pl (g n)) (pl (f n)))) (vlim (f n) (Nat.sub (pl (f n)) (pl (g n))))) (fun n _ _ => tagI (f n) (Nat.sub (pl (f n)) (pl (g n))))
def fMul (f g : Nat → Nat) : Fast := .yes (fun n _ _ => Nat.add (vII (f n) (g n)) (vlim (f n) (Nat.mul (pl (f n)) (pl (g n))))) (fun n _ _ => tagI (f n) (Nat.mul (pl (f n)) (pl (g n))))
def fQuo (f g : Nat → Nat) : Fast := .yes (fun n _ _ => Nat.add (Nat.add (vII (f n) (g n)) (Nat.sub 1 (pl (g n)))) (vlim (f n) (Nat.div (pl (f n)) (pl (g n))))) (fun n _ _ => tagI (f n) (Nat.div (pl (f n)) (pl (g n))))
def fRem (f g : Nat → Nat) : Fast := .yes (fun n _ _ => Nat.add (Nat.add (vII (f n) (g n)) (Nat.sub 1 (pl (g n)))) (vlim (f n) (Nat.mod (pl (f n)) (pl (g n))))) (fun n _ _ => tagI (f n) (Nat.mod (pl (f n)) (pl (g n))))
def vbit (a b : Nat) : Nat := Nat.add (vII a b) (Nat.shiftRight (Nat.lor (pl a) (pl b)) (xbits (Nat.mod a 32)))
def fAnd (f g : Nat → Nat) : Fast := .yes (fun n _ _ => Nat.add (vbit (f n) (g n)) (vlim (f n) (Nat.land (pl (f n)) (pl (g n))))) (fun n _ _ => tagI (f n) (Nat.land (pl (f n)) (pl (g n))))
def fOr (f g : Nat → Nat) : Fast := .yes (fun n _ _ => Nat.add (vbit (f n) (g n)) (vlim (f n) (Nat.lor (pl (f n)) (pl (g n))))) (fun n _ _ => tagI (f n) (Nat.lor (pl (f n)) (pl (g n))))
def fXor (f g : Nat → Nat) : Fast := .yes (fun n _ _ => Nat.add (vbit (f n) (g n)) (vlim (f n) (Nat.xor (pl (f n)) (pl (g n))))) (fun n _ _ => tagI (f n) (Nat.xor (pl (f n)) (pl (g n))))
def fShl (f g : Nat → Nat) : Fast := .yes (fun n _ _ => Nat.add (Nat.add (vI (f n)) (vI (g n))) (vlim (f n) (Nat.shiftLeft (pl (f n)) (lo2 (pl (g n)) (xbits (Nat.mod (f n) 32)))))) (fun n _ _ => tagI (f n) (Nat.shiftLeft (pl (f n)) (lo2 (pl (g n)) (xbits (Nat.mod (f n) 32)))))
def fShr (f g : Nat → Nat) : Fast := .yes (fun n _ _ => Nat.add (Nat.add (vI (f n)) (vI (g n))) (vlim (f n) (Nat.shiftRight (pl (f n)) (lo2 (pl (g n)) (xbits (Nat.mod (f n) 32)))))) (fun n _ _ => tagI (f n) (Nat.shiftRight (pl (f n)) (lo2 (pl (g n)) (xbits (Nat.mod (f n) 32)))))
def fCmp (c : Nat → Nat → Nat) (f g : Nat → Nat) : Fast := .yes (fun n _ _ => vII (f n) (g n)) (fun n _ _ => bitC (c (pl (f n)) (pl (g n))))
def fEql (f g : Nat → Nat) : Fast := fCmp (fun a b => eq01 a b) f g
def fNeq (f g : Nat → Nat) : Fast := fCmp (fun a b => Nat.sub 1 (eq01 a b)) f g
def fLss (f g : Nat → Nat) : Fast := fCmp (fun a b => le01 (Nat.succ a) b) f g
def fLeq (f g : Nat → Nat) : Fast := fCmp (fun a b => le01 a b) f g
def fGtr (f g : Nat → Nat) : Fast := fCmp (fun a b => le01 (Nat.succ b) a) f g
def fGeq (f g : Nat → Nat) : Fast := fCmp (fun a b => le01 b a) f g
def fBin : BinOp → (Nat → Nat) → (Nat → Nat) → Fast
  | .add, f, g => fAdd f g | .sub, f, g => fSub f g | .mul, f, g => fMul f g | .quo, f, g => fQuo f g | .rem, f, g => fRem f g
  | .and, f, g => fAnd f g | .or, f, g => fOr f g | .xor, f, g => fXor f g | .shl, f, g => fShl f g | .shr, f, g => fShr f g
  | .eql, f, g => fEql f g | .neq, f, g => fNeq f g | .lss, f, g => fLss f g | .leq, f, g => fLeq f g | .gtr, f, g => fGtr f g | .geq, f, g => fGeq f g
  | _, _, _ => .no
/-! what else is quick -/
/-- such a thing is never in the tree -/
def ubd (P : Program) (t : TypeId) : Bool := match und P t with
  | some (.int _) => true
  | some .bool => true
  | some (.pointer _) => true
  | some (.slice _) => true
  | some (.map _ _) => true
  | _ => false
/-- 1 turned to 0 -/
def nz (c : Nat) : Nat := Nat.mul c (Nat.sub 1 (Nat.sub 2 c))
def inD (nt : Nat) (d : Option Tmp) (f : Tmp → (Option AV → T AV → T AV) → Fast) : Fast :=
  match d with
  | some d => cnd (Nat.blt d nt) (unB (pP (dep nt) d) fun p => f d p) .no
  | none => .no
def fMove (P : Program) (nt : Nat) (ty : TypeId) (d : Option Tmp) (f : Nat → Nat) (g : T AV → Option AV) : Fast :=
  inD nt d fun d p => cnd (ubd P ty) (.act fun _ _ k n U S => k (pset n d (nz (f n))) U S) (.act fun _ _ k n U S => k (pset n d (f n)) (Bool.rec U (p (g U) U) (Nat.beq (f n) 1)) S)
def vB (c : Nat) : Nat := Nat.add (Nat.xor (Nat.mod c 32) 2) (Nat.sub (Nat.div c 32) 1)
def fPick (c f g : Nat → Nat) : Fast := .yes (fun n _ _ => Nat.add (vB (c n)) (vUn (Bool.rec (g n) (f n) (Nat.beq (c n) 34)))) (fun n _ _ => Bool.rec (g n) (f n) (Nat.beq (c n) 34))
def fNot (f : Nat → Nat) : Fast := .yes (fun n _ _ => vB (f n)) (fun n _ _ => Nat.sub 36 (f n))
def vP (c : Nat) : Nat := Nat.xor (Nat.mod c 32) 3
def fNil (f : Nat → Nat) : Fast := .yes (fun n _ _ => vP (f n)) (fun n _ _ => f n)
def isSl (P : Program) (t : TypeId) : Nat := match und P t with
  | some (.slice _) => 0
  | _ => 1
def lenC (c : Nat) : Nat := tagd 7 (Nat.mul (Nat.mod (Nat.shiftRight c 69) 4294967296) (Nat.sub 1 (Nat.sub 1 (Nat.sub (Nat.mod c 32) 17))))
def fLen (P : Program) (t : TypeId) (f : Nat → Nat) : Fast := .yes (fun n _ _ => Nat.add (isSl P t) (Nat.add (Nat.sub 17 (Nat.mod (f n) 32)) (Nat.sub (Nat.mod (f n) 32) 19))) (fun n _ _ => lenC (f n))
/-- a field's place, and one; 0: none -/
def fdo (P : Program) (s : TypeId) (f : Nat) : Nat := match und P s with
  | some (.struct fs) => match nth fs.toList f with
    | some fd => match szo P fd.type with
      | some n => bif Nat.beq n 0 then 0 else Nat.succ fd.offset
      | none => 0
    | none => 0
  | _ => 0
def fdaC (c o : Nat) : Nat := Nat.add c (Nat.shiftLeft o 37)
def fFda (P : Program) (s : TypeId) (f : Nat → Nat) (i : Nat) : Fast := .yes (fun n _ _ => Nat.add (vP (f n)) (Nat.add (Nat.sub 1 (fdo P s i)) (Nat.div (fdaC (f n) (Nat.pred (fdo P s i))) big))) (fun n _ _ => fdaC (f n) (Nat.pred (fdo P s i)))
/-- the cells of a slice's element, and one; 0: none -/
def ixs (P : Program) (t : TypeId) : Nat := match und P t with
  | some (.slice e) => match szo P e with
    | some s => Nat.succ s
    | none => 0
  | _ => 0
def eC (c : Nat) : Nat := Nat.mod (Nat.shiftRight c 101) 65536
def ixaC (c i : Nat) : Nat := tagd 3 (p32 (m32 (pl c)) (Nat.add (m32 (d32 (pl c))) (Nat.mul i (eC c))))
def vIx (s c i : Nat) : Nat := Nat.add (Nat.add (Nat.sub 18 (Nat.mod c 32)) (Nat.sub (Nat.mod c 32) 19)) (Nat.add (Nat.add (vI i) (Nat.sub (Nat.succ (pl i)) (Nat.mod (Nat.shiftRight c 69) 4294967296))) (Nat.add (Nat.add (Nat.sub 1 s) (Nat.sub s (Nat.succ (eC c)))) (Nat.sub (Nat.succ (eC c)) s)))
def fIxa (P : Program) (t : TypeId) (f g : Nat → Nat) : Fast := .yes (fun n _ _ => Nat.add (vIx (ixs P t) (f n) (g n)) (Nat.div (ixaC (f n) (pl (g n))) big)) (fun n _ _ => ixaC (f n) (pl (g n)))
/-- 0: such a thing has one cell -/
def oneCell (P : Program) (t : TypeId) : Nat := match und P t, szo P t with
  | some d, some _ => bif isA d then 1 else 0
  | _, _ => 1
def ldC (S : St) (i o : Nat) : Nat := Option.rec 0 (fun b => Blk.rec (motive := fun _ => Nat → Nat) (fun _ cs _ _ o => Option.rec 0 (fun a => enc a) (nth cs o)) (fun _ _ _ => 0) (fun _ _ _ _ => 0) b o) (S.h.get i)
def fLoad (P : Program) (t : TypeId) (f : Nat → Nat) : Fast := .yes (fun n _ S => Nat.add (Nat.add (vP (f n)) (oneCell P t)) (Nat.add (vUn (ldC S (m32 (pl (f n))) (d32 (pl (f n))))) (Nat.div (ldC S (m32 (pl (f n))) (d32 (pl (f n)))) big))) (fun n _ S => ldC S (m32 (pl (f n))) (d32 (pl (f n))))
/-- a whole number's kind; 0: none -/
def cvk (P : Program) (s d : TypeId) : Nat := match und P s, und P d with
  | some _, some (.int k) => Nat.add 4 (kidx k)
  | _, _ => 0
def fConv (P : Program) (s d : TypeId) (f : Nat → Nat) : Fast := .yes (fun n _ _ => Nat.add (vI (f n)) (Nat.add (Nat.sub 1 (cvk P s d)) (Nat.shiftRight (pl (f n)) (xlim (cvk P s d))))) (fun n _ _ => tagd (cvk P s d) (pl (f n)))
/-! texts -/
def isSt (P : Program) (t : TypeId) : Nat := match und P t with
  | some .string => 0
  | _ => 1
def avS (v : AV) (f : Nat → Nat → Nat) : Nat :=
  AV.rec (motive_1 := fun _ => (Nat → Nat → Nat) → Nat) (motive_2 := fun _ => Unit) (fun _ _ => 0) (fun _ _ _ => 0) (fun n x f => f n x) (fun _ _ _ => 0) (fun _ => 0) (fun _ _ _ _ _ _ _ => 0) (fun _ => 0) (fun _ _ => 0) (fun _ => 0) (fun _ _ _ _ _ _ => 0) (fun _ => 0) (fun _ _ _ _ => 0) (fun _ => 0) (fun _ _ _ => 0) (fun _ _ _ => 0) (fun _ _ => 0) ⟨⟩ (fun _ _ _ _ => ⟨⟩) v f
/-- its length, and one -/
def strL (x : Option AV) : Nat := Option.rec 0 (fun v => avS v fun n _ => Nat.succ n) x
/-- a byte, and one -/
def strI (x : Option AV) (i : Nat) : Nat := Option.rec 0 (fun v => avS v fun n x => Bool.rec 0 (Nat.succ (Nat.mod (Nat.shiftRight x (Nat.mul 8 i)) 256)) (Nat.ble (Nat.succ i) n)) x
/-- are they the same: 2, or 1 -/
def strE (x y : Option AV) : Nat := Option.rec 0 (fun v => Option.rec 0 (fun u => avS v fun n x => avS u fun k y => Nat.succ (Nat.mul (eq01 n k) (eq01 x y))) y) x
def fLenS (P : Program) (t : TypeId) (f : Nat → Nat) (g : T AV → Option AV) : Fast := .yes (fun n U _ => Nat.add (isSt P t) (Nat.add (Nat.xor (f n) 1) (Nat.add (Nat.sub 1 (strL (g U))) (Nat.div (strL (g U)) 18446744073709551616)))) (fun _ U _ => tagd 7 (Nat.pred (strL (g U))))
def fIdxS (P : Program) (t : TypeId) (f : Nat → Nat) (g : T AV → Option AV) (h : Nat → Nat) : Fast := .yes (fun n U _ => Nat.add (Nat.add (isSt P t) (vI (h n))) (Nat.add (Nat.xor (f n) 1) (Nat.sub 1 (strI (g U) (pl (h n)))))) (fun n U _ => tagd 8 (Nat.pred (strI (g U) (pl (h n)))))
def fStrE (c : Nat → Nat) (f : Nat → Nat) (g : T AV → Option AV) (f' : Nat → Nat) (g' : T AV → Option AV) : Fast := .yes (fun n U _ => Nat.add (Nat.add (Nat.xor (f n) 1) (Nat.xor (f' n) 1)) (Nat.sub 1 (strE (g U) (g' U)))) (fun n U _ => bitC (c (Nat.pred (strE (g U) (g' U)))))
/-! nothing, or something -/
def vNp (c : Nat) : Nat := Nat.mul (Nat.xor (Nat.mod c 32) 3) (Nat.xor (Nat.mod c 32) 16)
def vNs (c : Nat) : Nat := Nat.add (Nat.sub 17 (Nat.mod c 32)) (Nat.sub (Nat.mod c 32) 19)
def vNm (c : Nat) : Nat := Nat.add (Nat.sub 20 (Nat.mod c 32)) (Nat.sub (Nat.mod c 32) 21)
def isN (g c : Nat) : Nat := eq01 (Nat.mod c 32) g
def fNils (vN : Nat → Nat) (g : Nat) (c : Nat → Nat) (f f' : Nat → Nat) : Fast :=
  .yes (fun n _ _ => Nat.add (Nat.add (vN (f n)) (vN (f' n))) (Nat.mul (Nat.sub 1 (isN g (f n))) (Nat.sub 1 (isN g (f' n))))) (fun n _ _ => bitC (c (Nat.mul (isN g (f n)) (isN g (f' n)))))
def fEq (P : Program) (K : Known) (nt : Nat) (op : BinOp) (c : Nat → Nat) (t : TypeId) (x y : Operand) : Fast :=
  unB (ocB K x) fun f => unB (ocB K y) fun f' => match und P t with
    | some .string => unB (bxB K nt x) fun g => unB (bxB K nt y) fun g' => fStrE c f g f' g'
    | some (.pointer _) => fNils (fun c => vNp c) 16 c f f'
    | some (.slice _) => fNils (fun c => vNs c) 17 c f f'
    | some (.map _ _) => fNils (fun c => vNm c) 20 c f f'
    | _ => fBin op f f'
/-! a store of one cell -/
def one1 (P : Program) (t : TypeId) : Nat := match szo P t with
  | some n => Nat.add (Nat.sub n 1) (Nat.sub 1 n)
  | none => 1
def valC (c : Nat) : AV := Option.rec .np (fun a => a) (dec c none)
def stB : Blk → Nat → St → Nat → Nat → AV → Option St :=
  Blk.rec (motive := fun _ => Nat → St → Nat → Nat → AV → Option St) (fun t cs fz ex g S id off v => Bool.rec none (some ⟨S.h.put (some (.cells t (putR off [v] cs) fz ex)) id, S.nx⟩) (Nat.beq (Nat.add (Nat.sub g id) (Nat.add (Nat.sub fz off) (Nat.sub (Nat.succ off) (len cs)))) 0)) (fun _ _ _ _ _ _ _ => none) (fun _ _ _ _ _ _ _ _ => none)
def fStore (P : Program) (K : Known) (t : TypeId) (f f' : Nat → Nat) : Fast :=
  .act fun m ih k n U S => Bool.rec (m ih k n U S) (Option.rec (m ih k n U S) (fun S' => k n U S') (ob (S.h.get (m32 (pl (f n)))) fun b => stB b K.g S (m32 (pl (f n))) (d32 (pl (f n))) (valC (f' n)))) (Nat.beq (Nat.add (Nat.add (vP (f n)) (one1 P t)) (vUn (f' n))) 0)
/-! a part of a tuple -/
def tupN (x : Option AV) (i : Nat) : Option AV := ob (ob x atpN) fun l => nth l i
def fExt (d : Tmp) (p : Option AV → T AV → T AV) (f : Nat → Nat) (g : T AV → Option AV) (i : Nat) : Fast :=
  .act fun m ih k n U S => Bool.rec (m ih k n U S) (Option.rec (m ih k n U S) (fun a => k (pset n d (ccap (enc a))) (Bool.rec U (p (some a) U) (Nat.beq (ccap (enc a)) 1)) S) (tupN (g U) i)) (Nat.beq (f n) 1)
/-! what is new -/
def fNew (P : Program) (K : Known) (d : Tmp) (p : Option AV → T AV → T AV) (o : Op) : Fast :=
  .act fun m ih k n U S => Option.rec (.bad [12]) (fun q => Prod.rec (motive := fun _ => Fin) (fun b f => Bool.rec (.bad [13]) (k (pset n d (ccap (enc (f S.nx)))) (Bool.rec U (p (some (f S.nx)) U) (Nat.beq (ccap (enc (f S.nx))) 1)) ⟨S.h.put (some b) S.nx, Nat.succ S.nx⟩) (Nat.ble K.g S.nx)) q) (aalloc P (evo K ⟨n, U⟩) o)
def fast (P : Program) (K : Known) (nt : Nat) (ty : TypeId) (d : Option Tmp) : Op → Fast
  | .move x => unB (ocB K x) fun f => unB (bxB K nt x) fun g => fMove P nt ty d f g
  | .assign x => unB (ocB K x) fun f => unB (bxB K nt x) fun g => fMove P nt ty d f g
  | .pick c a b => unB (ocB K c) fun h => unB (ocB K a) fun f => unB (ocB K b) fun g => fPick h f g
  | .nilCheck x => unB (ocB K x) fun f => fNil f
  | .binOp op t x y _ => match op with
    | .eql => fEq P K nt .eql (fun x => x) t x y
    | .neq => fEq P K nt .neq (fun x => Nat.sub 1 x) t x y
    | op => unB (ocB K x) fun f => unB (ocB K y) fun g => fBin op f g
  | .unOp op _ x => match op with
    | .not => unB (ocB K x) fun f => fNot f
    | _ => .no
  | .convert s d x => unB (ocB K x) fun f => fConv P s d f
  | .fieldAddr s x i => unB (ocB K x) fun f => fFda P s f i
  | .indexAddr t x i => unB (ocB K x) fun f => unB (ocB K i) fun g => fIxa P t f g
  | .index t x i => unB (ocB K x) fun f => unB (bxB K nt x) fun g => unB (ocB K i) fun h => fIdxS P t f g h
  | .load t x => unB (ocB K x) fun f => fLoad P t f
  | .store t x v => match d with
    | none => unB (ocB K x) fun f => unB (ocB K v) fun f' => fStore P K t f f'
    | some _ => .no
  | .extract x i => unB (ocB K x) fun f => unB (bxB K nt x) fun g => inD nt d fun d p => fExt d p f g i
  | .alloc t => inD nt d fun d p => fNew P K d p (.alloc t)
  | .box t x => inD nt d fun d p => fNew P K d p (.box t x)
  | .buildSlice t n l => inD nt d fun d p => fNew P K d p (.buildSlice t n l)
  | .makeSlice t x y => inD nt d fun d p => fNew P K d p (.makeSlice t x y)
  | .makeMap t x => inD nt d fun d p => fNew P K d p (.makeMap t x)
  | .call c => match c.callee with
    | .builtin .len => match c.args.toList, c.argTypes.toList with
      | [x], [t] => unB (ocB K x) fun f => match und P t with
        | some .string => unB (bxB K nt x) fun g => fLenS P t f g
        | _ => fLen P t f
      | _, _ => .no
    | _ => .no
  | _ => .no

/-! one operation -/
def noIh : IH := fun _ _ _ _ => .bad [1]
/-- 'v' goes to its place -/
def aft (x : Option Env) (k : G) (S : St) : Fin := Option.rec (.bad [2]) (fun e => Env.rec (motive := fun _ => Fin) (fun n t => k n t S) e) x
def mid (P : Program) (K : Known) (nt : Nat) (dst : Option Tmp) (op : Op) : H → G → G :=
  fun _ k n t S => Cl.rec (motive := fun _ => Fin) (fun v S' => aft (aput nt ⟨n, t⟩ dst v) k S') (fun l => .bad (3 :: nt :: Option.rec 777 (fun d => d) dst :: l)) (aop P K noIh S (evo K ⟨n, t⟩) op)
def quick (d : Tmp) (v r : Nat → T AV → St → Nat) (m : H → G → G) : H → G → G :=
  fun ih k n t S => Bool.rec (m ih k n t S) (k (pset n d (r n t S)) t S) (Nat.beq (v n t S) 0)
/-- a call, in general -/
def rk (P : Program) (K : Known) (fn : Func) (kv : AV → St → Fin) : G := fun n t S => Option.rec (.bad [4]) (fun v => kv v S) (ares P K ⟨n, t⟩ S fn.results.toList)
def crun (P : Program) (K : Known) (ih : H) (S : St) (f : FuncId) (as : List AV) (kv : AV → St → Fin) : Fin :=
  cnd (K.enter f) (Option.rec (.bad [5, f]) (fun fn => Option.rec (.bad [6, f]) (fun c => cnd (Nat.ble (len as) fn.ntmps) (Env.rec (motive := fun _ => Fin) (fun n t => ih c fn.ntmps (rk P K fn kv) (rk P K fn kv) n t S) (ienv as 0 enew)) (.bad [7, f])) fn.body) (fnc P f))
    (Option.rec (.bad [8, f]) (fun p => Prod.rec (motive := fun _ => Fin) (fun v S' => kv v S') p) (aext P K S f as))
def gcall (P : Program) (K : Known) (nt : Nat) (dst : Option Tmp) (op : Op) : H → G → G :=
  fun ih k n t S => Option.rec (.bad [9]) (fun p => Prod.rec (motive := fun _ => Fin) (fun f as => crun P K ih S f as (fun v S' => aft (aput nt ⟨n, t⟩ dst v) k S')) p) (acallee (evo K ⟨n, t⟩) op)
/-! a call of a function that is known -/
def argN (K : Known) : List Operand → Nat → Box (Nat → Nat → Nat)
  | [], _ => .mk fun _ a => a
  | x :: l, i => unB (ocB K x) fun f => unB (argN K l (Nat.succ i)) fun g => .mk fun n a => g n (pset a i (f n))
def argT (K : Known) (nt nt' : Nat) : List Operand → Nat → Box (Nat → T AV → T AV → T AV)
  | [], _ => .mk fun _ _ u => u
  | x :: l, i => unB (ocB K x) fun f => unB (bxB K nt x) fun b => unB (pP (dep nt') i) fun p => unB (argT K nt nt' l (Nat.succ i)) fun g => .mk fun n t u => g n t (Bool.rec u (p (b t) u) (Nat.beq (f n) 1))
def kret (d r : Tmp) (g : T AV → Option AV) (p : Option AV → T AV → T AV) (k : G) (n : Nat) (t : T AV) : G := fun n' t' S' => k (pset n d (slot n' r)) (Bool.rec t (p (g t') t) (Nat.beq (slot n' r) 1)) S'
def fcall1 (c : Code) (nt' : Nat) (d r : Tmp) (g : T AV → Option AV) (p : Option AV → T AV → T AV) (a : Nat → Nat → Nat) (b : Nat → T AV → T AV → T AV) : H → G → G :=
  fun ih k n t S => ih c nt' (kret d r g p k n t) (kret d r g p k n t) (a n 0) (b n t (full AV (dep nt'))) S
def fcallG (P : Program) (K : Known) (nt : Nat) (c : Code) (fn : Func) (dst : Option Tmp) (a : Nat → Nat → Nat) (b : Nat → T AV → T AV → T AV) : H → G → G :=
  fun ih k n t S => ih c fn.ntmps (rk P K fn (fun v S' => aft (aput nt ⟨n, t⟩ dst v) k S')) (rk P K fn (fun v S' => aft (aput nt ⟨n, t⟩ dst v) k S')) (a n 0) (b n t (full AV (dep fn.ntmps))) S
def fcall (P : Program) (K : Known) (nt : Nat) (dst : Option Tmp) (f : FuncId) (args : List Operand) (m : H → G → G) : Box (H → G → G) :=
  match K.enter f, fnc P f with
  | true, some fn => match fn.body with
    | some c => cnd (Nat.ble (len args) fn.ntmps) (unB (argN K args 0) fun a => unB (argT K nt fn.ntmps args 0) fun b =>
        match dst, fn.results.toList with
        | some d, [.tmp r] => cnd (Nat.blt d nt) (unB (gP (dep fn.ntmps) r) fun g => unB (pP (dep nt) d) fun p => .mk (fcall1 c fn.ntmps d r g p a b)) (.mk m)
        | _, _ => .mk (fcallG P K nt c fn dst a b)) (.mk m)
    | none => .mk m
  | _, _ => .mk m
def cop1 (P : Program) (K : Known) (nt : Nat) (ty : TypeId) (dst : Option Tmp) (op : Op) : Box (H → G → G) :=
  match fast P K nt ty dst op with
  | .yes v r => match dst with
    | some d => cnd (Nat.blt d nt) (.mk (quick d v r (mid P K nt dst op))) (.mk (mid P K nt dst op))
    | none => .mk (mid P K nt dst op)
  | .act q => .mk (q (mid P K nt dst op))
  | .no => match op with
    | .call c => match c.callee with
      | .value x => match x with
        | .func f => fcall P K nt dst f c.args.toList (gcall P K nt dst op)
        | _ => .mk (gcall P K nt dst op)
      | _ => .mk (mid P K nt dst op)
    | _ => .mk (mid P K nt dst op)
def gd (P : Program) (K : Known) (nt : Nat) (all : List Oper) (o : Oper) (f : H → G → G) : H → G → G :=
  fun ih k n t S => Option.rec (.bad [10]) (fun b => Bool.rec (aft (aput nt ⟨n, t⟩ o.dst (.tp [])) k S) (f ih k n t S) b) (awant all ⟨n, t⟩ o)
/-- where a guard's truth lies -/
def gtmp (all : List Oper) (j : Nat) : Option Tmp := match nth all j with
  | some oj => oj.dst
  | none => none
def skp (nt : Nat) (dst : Option Tmp) : H → G → G :=
  match dst with
  | some d => cnd (Nat.blt d nt) (unB (pP (dep nt) d) fun p => fun _ k n t S => k (pset n d 1) (p (some (.tp [])) t) S) (fun _ _ _ _ _ => .bad [14])
  | none => fun _ k n t S => k n t S
def gdq (g : Tmp) (yes no : Nat) (f s m : H → G → G) : H → G → G :=
  fun ih k n t S => Bool.rec (Bool.rec (m ih k n t S) (s ih k n t S) (Nat.beq (Nat.mod (Nat.shiftRight n (Nat.mul 192 g)) 6277101735386680763835789423207666416102355444464034512896) no)) (f ih k n t S) (Nat.beq (Nat.mod (Nat.shiftRight n (Nat.mul 192 g)) 6277101735386680763835789423207666416102355444464034512896) yes)
def cop (P : Program) (K : Known) (nt : Nat) (all : List Oper) (o : Oper) : Box (H → G → G) :=
  match o.guard with
  | none => cop1 P K nt o.type o.dst o.op
  | some (j, w) => unB (cop1 P K nt o.type o.dst o.op) fun f => match gtmp all j with
    | some g => .mk (gdq g (cnd w 34 2) (cnd w 2 34) f (skp nt o.dst) (gd P K nt all o f))
    | none => .mk (gd P K nt all o f)
def cops (P : Program) (K : Known) (nt : Nat) (all : List Oper) : List Oper → Box (H → G → G)
  | [] => .mk fun _ k n t S => k n t S
  | o :: l => unB (cop P K nt all o) fun f => unB (cops P K nt all l) fun g => .mk fun ih k n t S => f ih (g ih k) n t S

/-! code -/
def dih (ih : H) : IH := fun c nt env S => Fin.rec (motive := fun _ => Ex) (fun o e S => .ok o e S) (fun l => .bad l) (ih c nt (fun n t S => .out .norm ⟨n, t⟩ S) (fun n t S => .out .ret ⟨n, t⟩ S) env.n env.t S)
def cdraw (draw : Draw) (nt id : Nat) (ops : Array Oper) : H → G → G :=
  fun ih k n t S => Rg.rec (motive := fun _ => Fin) (fun e S' => Env.rec (motive := fun _ => Fin) (fun n t => k n t S') e) (fun l => .bad (11 :: l)) (draw (dih ih) ops nt id ⟨n, t⟩ S)
abbrev C := H → G → G → (Nat → G) → G
/-- the tree is brought to its end first -/
def done (k : G) : G := fun n t S => T.rec (motive := fun _ => Fin) (fun v => k n (.vl v) S) (fun a b c d _ _ _ _ => k n (.nd a b c d) S) t
def cloop (q : C) (ih : H) (kR : G) (kE : Nat → G) : Nat → G := Nat.rec (motive := fun _ => G) (fun _ _ _ => .bad [998]) (fun _ again => q ih (done again) kR kE)
def rounds : Nat := 1000000
def cc (P : Program) (K : Known) (draw : Draw) (nt : Nat) : Code → Box C
  | .skip => .mk fun _ kN _ _ n t S => kN n t S
  | .region id ops d => match d with
    | true => .mk fun ih kN _ _ n t S => cdraw draw nt id ops ih kN n t S
    | false => unB (cops P K nt ops.toList ops.toList) fun f => .mk fun ih kN _ _ n t S => f ih kN n t S
  | .seq a b => unB (cc P K draw nt a) fun f => unB (cc P K draw nt b) fun g => .mk fun ih kN kR kE n t S => f ih (g ih kN kR kE) kR kE n t S
  | .cond x a b => unB (ocB K x) fun h => unB (cc P K draw nt a) fun f => unB (cc P K draw nt b) fun g => .mk fun ih kN kR kE n t S => Bool.rec (Bool.rec (.bad [888]) (g ih kN kR kE n t S) (Nat.beq (h n) 2)) (f ih kN kR kE n t S) (Nat.beq (h n) 34)
  | .block id b => unB (cc P K draw nt b) fun f => .mk fun ih kN kR kE n t S => f ih kN kR (fun i => Bool.rec (kE i) kN (Nat.beq i id)) n t S
  | .loop b => unB (cc P K draw nt b) fun f => .mk fun ih kN kR kE n t S => cloop f ih kR kE rounds n t S
  | .exit id => .mk fun _ _ _ kE n t S => kE id n t S
  | .ret => .mk fun _ _ kR _ n t S => kR n t S
  | _ => .mk fun _ _ _ _ _ _ _ => .bad [889]
/-- bodies, so many calls deep -/
def hN (P : Program) (K : Known) (draw : Draw) : Nat → H :=
  Nat.rec (motive := fun _ => H) (fun _ _ _ _ _ _ _ => .bad [999]) (fun _ ih c nt kN kR n t S => unB (cc P K draw nt c) fun q => q ih kN kR (fun i _ _ _ => .bad [997, i]) n t S)
end
end Am
