/- A machine for closed runs: code, turned once into functions of the places and the memory. No program in sight. -/
import Derived.Test.YtfnhdiibkogekaaGreatDoorGaF
import Derived.Test.YtfnhdiibkogekaaGreatDoorGaG
set_option linter.unusedVariables false
set_option linter.unusedSimpArgs false
section
namespace Am
open Go
noncomputable section

inductive Box (α : Type) where
  | mk (a : α)
inductive Fin where
  | out (o : Out) (e : Env) (S : St)
  | bad (l : List Nat)
/-- what is done next, with the places, the tree, the memory -/
abbrev G := Nat → T AV → St → Fin
/-- how a body is run: its code, its places, what is done behind its end, behind a return -/
abbrev H := Code → Nat → G → G → G
inductive Fast where
  | no
  | yes (v r : Nat → T AV → St → Nat)
  | act (q : (H → G → G) → H → G → G)

/-! operands as numbers, and what of them lies in the tree -/
def kcode (K : Known) (x : Operand) : Nat := Option.rec 1 (fun v => ccap (enc v)) (evoT x K enew)
def ocB (K : Known) : Operand → Box (Nat → Nat)
  | .tmp t => .mk fun n => Nat.mod (Nat.shiftRight n (Nat.mul 192 t)) 6277101735386680763835789423207666416102355444464034512896
  | .const v => .mk fun _ => Nat.add (kcode K (.const v)) 0
  | .global g => .mk fun _ => Nat.add (kcode K (.global g)) 0
  | .func f => .mk fun _ => Nat.add (kcode K (.func f)) 0
def unB {α β : Type} (b : Box α) (f : α → β) : β := Box.rec f b
/-- the way to a place of the tree, so deep -/
def gP : Nat → Nat → Box (T AV → Option AV)
  | 0, d => .mk fun U => U.get d
  | k + 1, d => unB (gP k (d / 4)) fun g => match d % 4 with
    | 0 => .mk fun U => T.rec (motive := fun _ => Option AV) (fun v => Bool.rec none v (Nat.beq d 0)) (fun a _ _ _ _ _ _ _ => g a) U
    | 1 => .mk fun U => T.rec (motive := fun _ => Option AV) (fun v => Bool.rec none v (Nat.beq d 0)) (fun _ b _ _ _ _ _ _ => g b) U
    | 2 => .mk fun U => T.rec (motive := fun _ => Option AV) (fun v => Bool.rec none v (Nat.beq d 0)) (fun _ _ c _ _ _ _ _ => g c) U
    | _ => .mk fun U => T.rec (motive := fun _ => Option AV) (fun v => Bool.rec none v (Nat.beq d 0)) (fun _ _ _ e _ _ _ _ => g e) U
def pP : Nat → Nat → Box (Option AV → T AV → T AV)
  | 0, d => .mk fun x U => U.put x d
  | k + 1, d => unB (pP k (d / 4)) fun g => match d % 4 with
    | 0 => .mk fun x U => T.rec (motive := fun _ => T AV) (fun v => Bool.rec (.vl v) (.vl x) (Nat.beq d 0)) (fun a b c e _ _ _ _ => .nd (g x a) b c e) U
    | 1 => .mk fun x U => T.rec (motive := fun _ => T AV) (fun v => Bool.rec (.vl v) (.vl x) (Nat.beq d 0)) (fun a b c e _ _ _ _ => .nd a (g x b) c e) U
    | 2 => .mk fun x U => T.rec (motive := fun _ => T AV) (fun v => Bool.rec (.vl v) (.vl x) (Nat.beq d 0)) (fun a b c e _ _ _ _ => .nd a b (g x c) e) U
    | _ => .mk fun x U => T.rec (motive := fun _ => T AV) (fun v => Bool.rec (.vl v) (.vl x) (Nat.beq d 0)) (fun a b c e _ _ _ _ => .nd a b c (g x e)) U
def dep (n : Nat) : Nat := Nat.succ (Nat.div (Nat.log2 n) 2)
def bxB (K : Known) (nt : Nat) : Operand → Box (T AV → Option AV)
  | .tmp t => gP (dep nt) t
  | .const v => .mk fun _ => Option.rec (motive := fun _ => Option AV) none (fun a => some a) (evoT (.const v) K enew)
  | .global g => .mk fun _ => Option.rec (motive := fun _ => Option AV) none (fun a => some a) (evoT (.global g) K enew)
  | .func f => .mk fun _ => Option.rec (motive := fun _ => Option AV) none (fun a => some a) (evoT (.func f) K enew)
def tg (c : Nat) : Nat := Nat.mod c 32
def pl (c : Nat) : Nat := Nat.div c 32
/-- 0: it stands for a value -/
def vUn (c : Nat) : Nat := Nat.add (Nat.sub 2 (Nat.mod c 32)) (Nat.sub (Nat.mod c 32) 23)
/-- 0: a number that is not below zero -/
def vI (c : Nat) : Nat := Nat.add (Nat.sub 4 (Nat.mod c 32)) (Nat.sub (Nat.mod c 32) 11)
def vII (a b : Nat) : Nat := Nat.add (Nat.mod (Nat.xor a b) 32) (vI a)
/-- so many bits hold it, with the sign and without -/
def xlim (g : Nat) : Nat := Nat.sub (Nat.shiftLeft 8 (Nat.mod g 4)) (Nat.sub 1 (Nat.div g 8))
def xbits (g : Nat) : Nat := Nat.shiftLeft 8 (Nat.mod g 4)
def vlim (a r : Nat) : Nat := Nat.shiftRight r (xlim (Nat.mod a 32))
def tagI (a r : Nat) : Nat := Nat.add (Nat.mul 32 r) (Nat.mod a 32)
def bitC (x : Nat) : Nat := Nat.add 2 (Nat.mul 32 x)
def eq01 (a b : Nat) : Nat := Nat.sub 1 (Nat.add (Nat.sub a b) (Nat.sub b a))
def le01 (a b : Nat) : Nat := Nat.sub 1 (Nat.sub a b)
def lo2 (a b : Nat) : Nat := Nat.sub a (Nat.sub a b)

/-! two numbers -/
def fAdd (f g : Nat → Nat) : Fast := .yes (fun n _ _ => Nat.add (vII (f n) (g n)) (vlim (f n) (Nat.add (pl (f n)) (pl (g n))))) (fun n _ _ => tagI (f n) (Nat.add (pl (f n)) (pl (g n))))
def fSub (f g : Nat → Nat) : Fast := .yes (fun n _ _ => Nat.add (Nat.add (vII (f n) (g n)) (Nat.sub (pl (g n)) (pl (f n)))) (vlim (f n) (Nat.sub (pl (f n)) (pl (g n))))) (fun n _ _ => tagI (f n) (Nat.sub (pl (f n)) (pl (g n))))
def fMul (f g : Nat → Nat) : Fast := .yes (fun n _ _ => Nat.add (vII (f n) (g n)) (vlim (f n) (Nat.mul (pl (f n)) (pl (g n))))) (fun n _ _ => tagI (f n) (Nat.mul (pl (f n)) (pl (g n))))
def fQuo (f g : Nat → Nat) : Fast := .yes (fun n _ _ => Nat.add (Nat.add (vII (f n) (g n)) (Nat.sub 1 (pl (g n)))) (vlim (f n) (Nat.div (pl (f n)) (pl (g n))))) (fun n _ _ => tagI (f n) (Nat.div (pl (f n)) (pl (g n))))
def fRem (f g : Nat → Nat) : Fast := .yes (fun n _ _ => Nat.add (Nat.add (vII (f n) (g n)) (Nat.sub 1 (pl (g n)))) (vlim (f n) (Nat.mod (pl (f n)) (pl (g n))))) (fun n _ _ => tagI (f n) (Nat.mod (pl (f n)) (pl (g n))))
def vbit (a b : Nat) : Nat := Nat.add (vII a b) (Nat.shiftRight (Nat.lor (pl a) (pl b)) (xbits (Nat.mod a 32)))
def fAnd (f g : Nat → Nat) : Fast := .yes (fun n _ _ => Nat.add (vbit (f n) (g n)) (vlim (f n) (Nat.land (pl (f n)) (pl (g n))))) (fun n _ _ => tagI (f n) (Nat.land (pl (f n)) (pl (g n))))
def fOr (f g : Nat → Nat) : Fast := .yes (fun n _ _ => Nat.add (vbit (f n) (g n)) (vlim (f n) (Nat.lor (pl (f n)) (pl (g n))))) (fun n _ _ => tagI (f n) (Nat.lor (pl (f n)) (pl (g n))))
def fXor (f g : Nat → Nat) : Fast := .yes (fun n _ _ => Nat.add (vbit (f n) (g n)) (vlim (f n) (Nat.xor (pl (f n)) (pl (g n))))) (fun n _ _ => tagI (f n) (Nat.xor (pl (f n)) (pl (g n))))
def fShl (f g : Nat → Nat) : Fast := .yes (fun n _ _ => Nat.add (Nat.add (vI (f n)) (vI (g n))) (vlim (f n) (Nat.shiftLeft (pl (f n)) (lo2 (pl (g n)) (xbits (Nat.mod (f n) 32)))))) (fun n _ _ => tagI (f n) (Nat.shiftLeft (pl (f n)) (lo2 (pl (g n)) (xbits (Nat.mod (f n) 32)))))
def fShr (f g : Nat → Nat) : Fast := .yes (fun n _ _ => Nat.add (Nat.add (vI (f n)) (vI (g n))) (vlim (f n) (Nat.shiftRight (pl (f n)) (lo2 (pl (g n)) (xbits (Nat.mod (f n) 32)))))) (fun n _ _ => tagI (f n) (Nat.shiftRight (pl (f n)) (lo2 (pl (g n)) (xbits (Nat.mod (f n) 32)))))
def fCmp (c : Nat → Nat → Nat) (f g : Nat → Nat) : Fast := .yes (fun n _ _ => vII (f n) (g n)) (fun n _ _ => bitC (c (pl (f n)) (pl (g n))))
def fEql (f g : Nat → Nat) : Fast := fCmp (fun a b => eq01 a b) f g
def fNeq (f g : Nat → Nat) : Fast := fCmp (fun a b => Nat.sub 1 (eq01 a b)) f g
def fLss (f g : Nat → Nat) : Fast := fCmp (fun a b => le01 (Nat.succ a) b) f g
def fLeq (f g : Nat → Nat) : Fast := fCmp (fun a b => le01 a b) f g
def fGtr (f g : Nat → Nat) : Fast := fCmp (fun a b => le01 (Nat.succ b) a) f g
def fGeq (f g : Nat → Nat) : Fast := fCmp (fun a b => le01 b a) f g
def fBin : BinOp → (Nat → Nat) → (Nat → Nat) → Fast
  | .add, f, g => fAdd f g | .sub, f, g => fSub f g | .mul, f, g => fMul f g | .quo, f, g => fQuo f g | .rem, f, g => fRem f g
  | .and, f, g => fAnd f g | .or, f, g => fOr f g | .xor, f, g => fXor f g | .shl, f, g => fShl f g | .shr, f, g => fShr f g
  | .eql, f, g => fEql f g | .neq, f, g => fNeq f g | .lss, f, g => fLss f g | .leq, f, g => fLeq f g | .gtr, f, g => fGtr f g | .geq, f, g => fGeq f g
  | _, _, _ => .no
/-! what else is quick -/
/-- such a thing is never in the tree -/
def ubd (P : Program) (t : TypeId) : Bool := match und P t with
  | some (.int _) => true
  | some .bool => true
  | some (.pointer _) => true
  | some (.slice _) => true
  | some (.map _ _) => true
  | _ => false
/-- 1 turned to 0 -/
def nz (c : Nat) : Nat := Nat.mul c (Nat.sub 1 (Nat.sub 2 c))
def inD (nt : Nat) (d : Option Tmp) (f : Tmp → (Option AV → T AV → T AV) → Fast) : Fast :=
  match d with
  | some d => cnd (Nat.blt d nt) (unB (pP (dep nt) d) fun p => f d p) .no
  | none => .no
def fMove (P : Program) (nt : Nat) (ty : TypeId) (d : Option Tmp) (f : Nat → Nat) (g : T AV → Option AV) : Fast :=
  inD nt d fun d p => cnd (ubd P ty) (.act fun _ _ k n U S => k (pset n d (nz (f n))) U S) (.act fun _ _ k n U S => k (pset n d (f n)) (Bool.rec U (p (g U) U) (Nat.beq (f n) 1)) S)
def vB (c : Nat) : Nat := Nat.add (Nat.xor (Nat.mod c 32) 2) (Nat.sub (Nat.div c 32) 1)
def fPick (c f g : Nat → Nat) : Fast := .yes (fun n _ _ => Nat.add (vB (c n)) (vUn (Bool.rec (g n) (f n) (Nat.beq (c n) 34)))) (fun n _ _ => Bool.rec (g n) (f n) (Nat.beq (c n) 34))
def fNot (f : Nat → Nat) : Fast := .yes (fun n _ _ => vB (f n)) (fun n _ _ => Nat.sub 36 (f n))
def vP (c : Nat) : Nat := Nat.xor (Nat.mod c 32) 3
def fNil (f : Nat → Nat) : Fast := .yes (fun n _ _ => vP (f n)) (fun n _ _ => f n)
def isSl (P : Program) (t : TypeId) : Nat := match und P t with
  | some (.slice _) => 0
  | _ => 1
def lenC (c : Nat) : Nat := tagd 7 (Nat.mul (Nat.mod (Nat.shiftRight c 69) 4294967296) (Nat.sub 1 (Nat.sub 1 (Nat.sub (Nat.mod c 32) 17))))
def fLen (P : Program) (t : TypeId) (f : Nat → Nat) : Fast := .yes (fun n _ _ => Nat.add (isSl P t) (Nat.add (Nat.sub 17 (Nat.mod (f n) 32)) (Nat.sub (Nat.mod (f n) 32) 19))) (fun n _ _ => lenC (f n))
/-- a field's place, and one; 0: none -/
def fdo (P : Program) (s : TypeId) (f : Nat) : Nat := match und P s with
  | some (.struct fs) => match nth fs.toList f with
    | some fd => match szo P fd.type with
      | some n => bif Nat.beq n 0 then 0 else Nat.succ fd.offset
      | none => 0
    | none => 0
  | _ => 0
def fdaC (c o : Nat) : Nat := Nat.add c (Nat.shiftLeft o 37)
def fFda (P : Program) (s : TypeId) (f : Nat → Nat) (i : Nat) : Fast := .yes (fun n _ _ => Nat.add (vP (f n)) (Nat.add (Nat.sub 1 (fdo P s i)) (Nat.div (fdaC (f n) (Nat.pred (fdo P s i))) big))) (fun n _ _ => fdaC (f n) (Nat.pred (fdo P s i)))
/-- the cells of a slice's element, and one; 0: none -/
def ixs (P : Program) (t : TypeId) : Nat := match und P t with
  | some (.slice e) => match szo P e with
    | some s => Nat.succ s
    | none => 0
  | _ => 0
def eC (c : Nat) : Nat := Nat.mod (Nat.shiftRight c 101) 65536
def ixaC (c i : Nat) : Nat := tagd 3 (p32 (m32 (pl c)) (Nat.add (m32 (d32 (pl c))) (Nat.mul i (eC c))))
def vIx (s c i : Nat) : Nat := Nat.add (Nat.add (Nat.sub 18 (Nat.mod c 32)) (Nat.sub (Nat.mod c 32) 19)) (Nat.add (Nat.add (vI i) (Nat.sub (Nat.succ (pl i)) (Nat.mod (Nat.shiftRight c 69) 4294967296))) (Nat.add (Nat.add (Nat.sub 1 s) (Nat.sub s (Nat.succ (eC c)))) (Nat.sub (Nat.succ (eC c)) s)))
def fIxa (P : Program) (t : TypeId) (f g : Nat → Nat) : Fast := .yes (fun n _ _ => Nat.add (vIx (ixs P t) (f n) (g n)) (Nat.div (ixaC (f n) (pl (g n))) big)) (fun n _ _ => ixaC (f n) (pl (g n)))
/-- 0: such a thing has one cell -/
def oneCell (P : Program) (t : TypeId) : Nat := match und P t, szo P t with
  | some d, some _ => bif isA d then 1 else 0
  | _, _ => 1
def ldC (S : St) (i o : Nat) : Nat := Option.rec 0 (fun b => Blk.rec (motive := fun _ => Nat → Nat) (fun _ cs _ _ o => Option.rec 0 (fun a => enc a) (nth cs o)) (fun _ _ _ => 0) (fun _ _ _ _ => 0) b o) (S.h.get i)
def fLoad (P : Program) (t : TypeId) (f : Nat → Nat) : Fast := .yes (fun n _ S => Nat.add (Nat.add (vP (f n)) (oneCell P t)) (Nat.add (vUn (ldC S (m32 (pl (f n))) (d32 (pl (f n))))) (Nat.div (ldC S (m32 (pl (f n))) (d32 (pl (f n)))) big))) (fun n _ S => ldC S (m32 (pl (f n))) (d32 (pl (f n))))
/-- a whole number's kind; 0: none -/
def cvk (P : Program) (s d : TypeId) : Nat := match und P s, und P d with
  | some _, some (.int k) => Nat.add 4 (kidx k)
  | _, _ => 0
def fConv (P : Program) (s d : TypeId) (f : Nat → Nat) : Fast := .yes (fun n _ _ => Nat.add (vI (f n)) (Nat.add (Nat.sub 1 (cvk P s d)) (Nat.shiftRight (pl (f n)) (xlim (cvk P s d))))) (fun n _ _ => tagd (cvk P s d) (pl (f n)))
/-! texts -/
def isSt (P : Program) (t : TypeId) : Nat := match und P t with
  | some .string => 0
  | _ => 1
def avS (v : AV) (f : Nat → Nat → Nat) : Nat :=
  AV.rec (motive_1 := fun _ => (Nat → Nat → Nat) → Nat) (motive_2 := fun _ => Unit) (fun _ _ => 0) (fun _ _ _ => 0) (fun n x f => f n x) (fun _ _ _ => 0) (fun _ => 0) (fun _ _ _ _ _ _ _ => 0) (fun _ => 0) (fun _ _ => 0) (fun _ => 0) (fun _ _ _ _ _ _ => 0) (fun _ => 0) (fun _ _ _ _ => 0) (fun _ => 0) (fun _ _ _ => 0) (fun _ _ _ => 0) (fun _ _ => 0) ⟨⟩ (fun _ _ _ _ => ⟨⟩) v f
/-- its length, and one -/
def strL (x : Option AV) : Nat := Option.rec 0 (fun v => avS v fun n _ => Nat.succ n) x
/-- a byte, and one -/
def strI (x : Option AV) (i : Nat) : Nat := Option.rec 0 (fun v => avS v fun n x => Bool.rec 0 (Nat.succ (Nat.mod (Nat.shiftRight x (Nat.mul 8 i)) 256)) (Nat.ble (Nat.succ i) n)) x
/-- are they the same: 2, or 1 -/
def strE (x y : Option AV) : Nat := Option.rec 0 (fun v => Option.rec 0 (fun u => avS v fun n x => avS u fun k y => Nat.succ (Nat.mul (eq01 n k) (eq01 x y))) y) x
def fLenS (P : Program) (t : TypeId) (f : Nat → Nat) (g : T AV → Option AV) : Fast := .yes (fun n U _ => Nat.add (isSt P t) (Nat.add (Nat.xor (f n) 1) (Nat.add (Nat.sub 1 (strL (g U))) (Nat.div (strL (g U)) 18446744073709551616)))) (fun _ U _ => tagd 7 (Nat.pred (strL (g U))))
def fIdxS (P : Program) (t : TypeId) (f : Nat → Nat) (g : T AV → Option AV) (h : Nat → Nat) : Fast := .yes (fun n U _ => Nat.add (Nat.add (isSt P t) (vI (h n))) (Nat.add (Nat.xor (f n) 1) (Nat.sub 1 (strI (g U) (pl (h n)))))) (fun n U _ => tagd 8 (Nat.pred (strI (g U) (pl (h n)))))
def fStrE (c : Nat → Nat) (f : Nat → Nat) (g : T AV → Option AV) (f' : Nat → Nat) (g' : T AV → Option AV) : Fast := .yes (fun n U _ => Nat.add (Nat.add (Nat.xor (f n) 1) (Nat.xor (f' n) 1)) (Nat.sub 1 (strE (g U) (g' U)))) (fun n U _ => bitC (c (Nat.pred (strE (g U) (g' U)))))
/-! nothing, or something -/
def vNp (c : Nat) : Nat := Nat.mul (Nat.xor (Nat.mod c 32) 3) (Nat.xor (Nat.mod c 32) 16)
def vNs (c : Nat) : Nat := Nat.add (Nat.sub 17 (Nat.mod c 32)) (Nat.sub (Nat.mod c 32) 19)
def vNm (c : Nat) : Nat := Nat.add (Nat.sub 20 (Nat.mod c 32)) (Nat.sub (Nat.mod c 32) 21)
def isN (g c : Nat) : Nat := eq01 (Nat.mod c 32) g
def fNils (vN : Nat → Nat) (g : Nat) (c : Nat → Nat) (f f' : Nat → Nat) : Fast :=
  .yes (fun n _ _ => Nat.add (Nat.add (vN (f n)) (vN (f' n))) (Nat.mul (Nat.sub 1 (isN g (f n))) (Nat.sub 1 (isN g (f' n))))) (fun n _ _ => bitC (c (Nat.mul (isN g (f n)) (isN g (f' n)))))
def fEq (P : Program) (K : Known) (nt : Nat) (op : BinOp) (c : Nat → Nat) (t : TypeId) (x y : Operand) : Fast :=
  unB (ocB K x) fun f => unB (ocB K y) fun f' => match und P t with
    | some .string => unB (bxB K nt x) fun g => unB (bxB K nt y) fun g' => fStrE c f g f' g'
    | some (.pointer _) => fNils (fun c => vNp c) 16 c f f'
    | some (.slice _) => fNils (fun c => vNs c) 17 c f f'
    | some (.map _ _) => fNils (fun c => vNm c) 20 c f f'
    | _ => fBin op f f'
/-! a store of one cell -/
def one1 (P : Program) (t : TypeId) : Nat := match szo P t with
  | some n => Nat.add (Nat.sub n 1) (Nat.sub 1 n)
  | none => 1
def valC (c : Nat) : AV := Option.rec .np (fun a => a) (dec c none)
def stB : Blk → Nat → St → Nat → Nat → AV → Option St :=
  Blk.rec (motive := fun _ => Nat → St → Nat → Nat → AV → Option St) (fun t cs fz ex g S id off v => Bool.rec none (some ⟨S.h.put (some (.cells t (putR off [v] cs) fz ex)) id, S.nx⟩) (Nat.beq (Nat.add (Nat.sub g id) (Nat.add (Nat.sub fz off) (Nat.sub (Nat.succ off) (len cs)))) 0)) (fun _ _ _ _ _ _ _ => none) (fun _ _ _ _ _ _ _ _ => none)
def fStore (P : Program) (K : Known) (t : TypeId) (f f' : Nat → Nat) : Fast :=
  .act fun m ih k n U S => Bool.rec (m ih k n U S) (Option.rec (m ih k n U S) (fun S' => k n U S') (ob (S.h.get (m32 (pl (f n)))) fun b => stB b K.g S (m32 (pl (f n))) (d32 (pl (f n))) (valC (f' n)))) (Nat.beq (Nat.add (Nat.add (vP (f n)) (one1 P t)) (vUn (f' n))) 0)
/-! a part of a tuple -/
def tupN (x : Option AV) (i : Nat) : Option AV := ob (ob x atpN) fun l => nth l i
def fExt (d : Tmp) (p : Option AV → T AV → T AV) (f : Nat → Nat) (g : T AV → Option AV) (i : Nat) : Fast :=
  .act fun m ih k n U S => Bool.rec (m ih k n U S) (Option.rec (m ih k n U S) (fun a => k (pset n d (ccap (enc a))) (Bool.rec U (p (some a) U) (Nat.beq (ccap (enc a)) 1)) S) (tupN (g U) i)) (Nat.beq (f n) 1)
/-! what is new -/
def fNew (P : Program) (K : Known) (d : Tmp) (p : Option AV → T AV → T AV) (o : Op) : Fast :=
  .act fun m ih k n U S => Option.rec (.bad [12]) (fun q => Prod.rec (motive := fun _ => Fin) (fun b f => Bool.rec (.bad [13]) (k (pset n d (ccap (enc (f S.nx)))) (Bool.rec U (p (some (f S.nx)) U) (Nat.beq (ccap (enc (f S.nx))) 1)) ⟨S.h.put (some b) S.nx, Nat.succ S.nx⟩) (Nat.ble K.g S.nx)) q) (aalloc P (evo K ⟨n, U⟩) o)
def fast (P : Program) (K : Known) (nt : Nat) (ty : TypeId) (d : Option Tmp) : Op → Fast
  | .move x => unB (ocB K x) fun f => unB (bxB K nt x) fun g => fMove P nt ty d f g
  | .assign x => unB (ocB K x) fun f => unB (bxB K nt x) fun g => fMove P nt ty d f g
  | .pick c a b => unB (ocB K c) fun h => unB (ocB K a) fun f => unB (ocB K b) fun g => fPick h f g
  | .nilCheck x => unB (ocB K x) fun f => fNil f
  | .binOp op t x y _ => match op with
    | .eql => fEq P K nt .eql (fun x => x) t x y
    | .neq => fEq P K nt .neq (fun x => Nat.sub 1 x) t x y
    | op => unB (ocB K x) fun f => unB (ocB K y) fun g => fBin op f g
  | .unOp op _ x => match op with
    | .not => unB (ocB K x) fun f => fNot f
    | _ => .no
  | .convert s d x => unB (ocB K x) fun f => fConv P s d f
  | .fieldAddr s x i => unB (ocB K x) fun f => fFda P s f i
  | .indexAddr t x i => unB (ocB K x) fun f => unB (ocB K i) fun g => fIxa P t f g
  | .index t x i => unB (ocB K x) fun f => unB (bxB K nt x) fun g => unB (ocB K i) fun h => fIdxS P t f g h
  | .load t x => unB (ocB K x) fun f => fLoad P t f
  | .store t x v => match d with
    | none => unB (ocB K x) fun f => unB (ocB K v) fun f' => fStore P K t f f'
    | some _ => .no
  | .extract x i => unB (ocB K x) fun f => unB (bxB K nt x) fun g => inD nt d fun d p => fExt d p f g i
  | .alloc t => inD nt d fun d p => fNew P K d p (.alloc t)
  | .box t x => inD nt d fun d p => fNew P K d p (.box t x)
  | .buildSlice t n l => inD nt d fun d p => fNew P K d p (.buildSlice t n l)
  | .makeSlice t x y => inD nt d fun d p => fNew P K d p (.makeSlice t x y)
  | .makeMap t x => inD nt d fun d p => fNew P K d p (.makeMap t x)
  | .call c => match c.callee with
    | .builtin .len => match c.args.toList, c.argTypes.toList with
      | [x], [t] => unB (ocB K x) fun f => match und P t with
        | some .string => unB (bxB K nt x) fun g => fLenS P t f g
        | _ => fLen P t f
      | _, _ => .no
    | _ => .no
  | _ => .no

/-! one operation -/
def noIh : IH := fun _ _ _ _ => .bad [1]
/-- 'v' goes to its place -/
def aft (x : Option Env) (k : G) (S : St) : Fin := Option.rec (.bad [2]) (fun e => Env.rec (motive := fun _ => Fin) (fun n t => k n t S) e) x
def mid (P : Program) (K : Known) (nt : Nat) (dst : Option Tmp) (op : Op) : H → G → G :=
  fun _ k n t S => Cl.rec (motive := fun _ => Fin) (fun v S' => aft (aput nt ⟨n, t⟩ dst v) k S') (fun l => .bad (3 :: nt :: Option.rec 777 (fun d => d) dst :: l)) (aop P K noIh S (evo K ⟨n, t⟩) op)
def quick (d : Tmp) (v r : Nat → T AV → St → Nat) (m : H → G → G) : H → G → G :=
  fun ih k n t S => Bool.rec (m ih k n t S) (k (pset n d (r n t S)) t S) (Nat.beq (v n t S) 0)
/-- a call, in general -/
def rk (P : Program) (K : Known) (fn : Func) (kv : AV → St → Fin) : G := fun n t S => Option.rec (.bad [4]) (fun v => kv v S) (ares P K ⟨n, t⟩ S fn.results.toList)
def crun (P : Program) (K : Known) (ih : H) (S : St) (f : FuncId) (as : List AV) (kv : AV → St → Fin) : Fin :=
  cnd (K.enter f) (Option.rec (.bad [5, f]) (fun fn => Option.rec (.bad [6, f]) (fun c => cnd (Nat.ble (len as) fn.ntmps) (Env.rec (motive := fun _ => Fin) (fun n t => ih c fn.ntmps (rk P K fn kv) (rk P K fn kv) n t S) (ienv as 0 enew)) (.bad [7, f])) fn.body) (fnc P f))
    (Option.rec (.bad [8, f]) (fun p => Prod.rec (motive := fun _ => Fin) (fun v S' => kv v S') p) (aext P K S f as))
def gcall (P : Program) (K : Known) (nt : Nat) (dst : Option Tmp) (op : Op) : H → G → G :=
  fun ih k n t S => Option.rec (.bad [9]) (fun p => Prod.rec (motive := fun _ => Fin) (fun f as => crun P K ih S f as (fun v S' => aft (aput nt ⟨n, t⟩ dst v) k S')) p) (acallee (evo K ⟨n, t⟩) op)
/-! a call of a function that is known -/
def argN (K : Known) : List Operand → Nat → Box (Nat → Nat → Nat)
  | [], _ => .mk fun _ a => a
  | x :: l, i => unB (ocB K x) fun f => unB (argN K l (Nat.succ i)) fun g => .mk fun n a => g n (pset a i (f n))
def argT (K : Known) (nt nt' : Nat) : List Operand → Nat → Box (Nat → T AV → T AV → T AV)
  | [], _ => .mk fun _ _ u => u
  | x :: l, i => unB (ocB K x) fun f => unB (bxB K nt x) fun b => unB (pP (dep nt') i) fun p => unB (argT K nt nt' l (Nat.succ i)) fun g => .mk fun n t u => g n t (Bool.rec u (p (b t) u) (Nat.beq (f n) 1))
def kret (d r : Tmp) (g : T AV → Option AV) (p : Option AV → T AV → T AV) (k : G) (n : Nat) (t : T AV) : G := fun n' t' S' => k (pset n d (slot n' r)) (Bool.rec t (p (g t') t) (Nat.beq (slot n' r) 1)) S'
def fcall1 (c : Code) (nt' : Nat) (d r : Tmp) (g : T AV → Option AV) (p : Option AV → T AV → T AV) (a : Nat → Nat → Nat) (b : Nat → T AV → T AV → T AV) : H → G → G :=
  fun ih k n t S => ih c nt' (kret d r g p k n t) (kret d r g p k n t) (a n 0) (b n t (full AV (dep nt'))) S
def fcallG (P : Program) (K : Known) (nt : Nat) (c : Code) (fn : Func) (dst : Option Tmp) (a : Nat → Nat → Nat) (b : Nat → T AV → T AV → T AV) : H → G → G :=
  fun ih k n t S => ih c fn.ntmps (rk P K fn (fun v S' => aft (aput nt ⟨n, t⟩ dst v) k S')) (rk P K fn (fun v S' => aft (aput nt ⟨n, t⟩ dst v) k S')) (a n 0) (b n t (full AV (dep fn.ntmps))) S
def fcall (P : Program) (K : Known) (nt : Nat) (dst : Option Tmp) (f : FuncId) (args : List Operand) (m : H → G → G) : Box (H → G → G) :=
  match K.enter f, fnc P f with
  | true, some fn => match fn.body with
    | some c => cnd (Nat.ble (len args) fn.ntmps) (unB (argN K args 0) fun a => unB (argT K nt fn.ntmps args 0) fun b =>
        match dst, fn.results.toList with
        | some d, [.tmp r] => cnd (Nat.blt d nt) (unB (gP (dep fn.ntmps) r) fun g => unB (pP (dep nt) d) fun p => .mk (fcall1 c fn.ntmps d r g p a b)) (.mk m)
        | _, _ => .mk (fcallG P K nt c fn dst a b)) (.mk m)
    | none => .mk m
  | _, _ => .mk m
def cop1 (P : Program) (K : Known) (nt : Nat) (ty : TypeId) (dst : Option Tmp) (op : Op) : Box (H → G → G) :=
  match fast P K nt ty dst op with
  | .yes v r => match dst with
    | some d => cnd (Nat.blt d nt) (.mk (quick d v r (mid P K nt dst op))) (.mk (mid P K nt dst op))
    | none => .mk (mid P K nt dst op)
  | .act q => .mk (q (mid P K nt dst op))
  | .no => match op with
    | .call c => match c.callee with
      | .value x => match x with
        | .func f => fcall P K nt dst f c.args.toList (gcall P K nt dst op)
        | _ => .mk (gcall P K nt dst op)
      | _ => .mk (mid P K nt dst op)
    | _ => .mk (mid P K nt dst op)
def gd (P : Program) (K : Known) (nt : Nat) (all : List Oper) (o : Oper) (f : H → G → G) : H → G → G :=
  fun ih k n t S => Option.rec (.bad [10]) (fun b => Bool.rec (aft (aput nt ⟨n, t⟩ o.dst (.tp [])) k S) (f ih k n t S) b) (awant all ⟨n, t⟩ o)
/-- where a guard's truth lies -/
def gtmp (all : List Oper) (j : Nat) : Option Tmp := match nth all j with
  | some oj => oj.dst
  | none => none
def skp (nt : Nat) (dst : Option Tmp) : H → G → G :=
  match dst with
  | some d => cnd (Nat.blt d nt) (unB (pP (dep nt) d) fun p => fun _ k n t S => k (pset n d 1) (p (some (.tp [])) t) S) (fun _ _ _ _ _ => .bad [14])
  | none => fun _ k n t S => k n t S
def gdq (g : Tmp) (yes no : Nat) (f s m : H → G → G) : H → G → G :=
  fun ih k n t S => Bool.rec (Bool.rec (m ih k n t S) (s ih k n t S) (Nat.beq (Nat.mod (Nat.shiftRight n (Nat.mul 192 g)) 6277101735386680763835789423207666416102355444464034512896) no)) (f ih k n t S) (Nat.beq (Nat.mod (Nat.shiftRight n (Nat.mul 192 g)) 6277101735386680763835789423207666416102355444464034512896) yes)
def cop (P : Program) (K : Known) (nt : Nat) (all : List Oper) (o : Oper) : Box (H → G → G) :=
  match o.guard with
  | none => cop1 P K nt o.type o.dst o.op
  | some (j, w) => unB (cop1 P K nt o.type o.dst o.op) fun f => match gtmp all j with
    | some g => .mk (gdq g (cnd w 34 2) (cnd w 2 34) f (skp nt o.dst) (gd P K nt all o f))
    | none => .mk (gd P K nt all o f)
def cops (P : Program) (K : Known) (nt : Nat) (all : List Oper) : List Oper → Box (H → G → G)
  | [] => .mk fun _ k n t S => k n t S
  | o :: l => unB (cop P K nt all o) fun f => unB (cops P K nt all l) fun g => .mk fun ih k n t S => f ih (g ih k) n t S

/-! code -/
def dih (ih : H) : IH := fun c nt env S => Fin.rec (motive := fun _ => Ex) (fun o e S => .ok o e S) (fun l => .bad l) (ih c nt (fun n t S => .out .norm ⟨n, t⟩ S) (fun n t S => .out .ret ⟨n, t⟩ S) env.n env.t S)
def cdraw (draw : Draw) (nt id : Nat) (ops : Array Oper) : H → G → G :=
  fun ih k n t S => Rg.rec (motive := fun _ => Fin) (fun e S' => Env.rec (motive := fun _ => Fin) (fun n t => k n t S') e) (fun l => .bad (11 :: l)) (draw (dih ih) ops nt id ⟨n, t⟩ S)
abbrev C := H → G → G → (Nat → G) → G
/-- the tree is brought to its end first -/
def done (k : G) : G := fun n t S => T.rec (motive := fun _ => Fin) (fun v => k n (.vl v) S) (fun a b c d _ _ _ _ => k n (.nd a b c d) S) t
def cloop (q : C) (ih : H) (kR : G) (kE : Nat → G) : Nat → G := Nat.rec (motive := fun _ => G) (fun _ _ _ => .bad [998]) (fun _ again => q ih (done again) kR kE)
def rounds : Nat := 1000000
def cc (P : Program) (K : Known) (draw : Draw) (nt : Nat) : Code → Box C
  | .skip => .mk fun _ kN _ _ n t S => kN n t S
  | .region id ops d => match d with
    | true => .mk fun ih kN _ _ n t S => cdraw draw nt id ops ih kN n t S
    | false => unB (cops P K nt ops.toList ops.toList) fun f => .mk fun ih kN _ _ n t S => f ih kN n t S
  | .seq a b => unB (cc P K draw nt a) fun f => unB (cc P K draw nt b) fun g => .mk fun ih kN kR kE n t S => f ih (g ih kN kR kE) kR kE n t S
  | .cond x a b => unB (ocB K x) fun h => unB (cc P K draw nt a) fun f => unB (cc P K draw nt b) fun g => .mk fun ih kN kR kE n t S => Bool.rec (Bool.rec (.bad [888]) (g ih kN kR kE n t S) (Nat.beq (h n) 2)) (f ih kN kR kE n t S) (Nat.beq (h n) 34)
  | .block id b => unB (cc P K draw nt b) fun f => .mk fun ih kN kR kE n t S => f ih kN kR (fun i => Bool.rec (kE i) kN (Nat.beq i id)) n t S
  | .loop b => unB (cc P K draw nt b) fun f => .mk fun ih kN kR kE n t S => cloop f ih kR kE rounds n t S
  | .exit id => .mk fun _ _ _ kE n t S => kE id n t S
  | .ret => .mk fun _ _ kR _ n t S => kR n t S
  | _ => .mk fun _ _ _ _ _ _ _ => .bad [889]
/-- bodies, so many calls deep -/
def hN (P : Program) (K : Known) (draw : Draw) : Nat → H :=
  Nat.rec (motive := fun _ => H) (fun _ _ _ _ _ _ _ => .bad [999]) (fun _ ih c nt kN kR n t S => unB (cc P K draw nt c) fun q => q ih kN kR (fun i _ _ _ => .bad [997, i]) n t S)
end
end Am
end
section
namespace Am
open Go
noncomputable section
variable {P : Program} {K : Known}

/-- an operation -/
def OpR (P : Program) (K : Known) (nt : Nat) (o : Oper) (env : Env) (S : St) (env1 : Env) (S1 : St) : Prop :=
  S.nx ≤ S1.nx ∧ ∀ m a w, R S.lk m w → Fre m S.nx S1.nx → Gl K m → EnvOk m env a.tmps → a.tmps.size = nt → a.defers = [] → ∀ (next : Act → World → Prop) (Q : Exit → Act → World → Prop),
    (∀ m' a' w', Step K.g m S.lk S.nx w m' S1.lk S1.nx w' → EnvOk m' env1 a'.tmps → a'.tmps.size = nt → a'.defers = [] → next a' w') → o.wp P a w next Q
/-- one that runs, or is passed by -/
def StepR (P : Program) (K : Known) (nt : Nat) (all : List Oper) (o : Oper) (env : Env) (S : St) (env1 : Env) (S1 : St) : Prop :=
  (awant all env o = some true ∧ OpR P K nt o env S env1 S1) ∨ (awant all env o = some false ∧ S1 = S ∧ ∀ (m : Map) (a : Act), EnvOk m env a.tmps → a.tmps.size = nt → EnvOk m env1 (a.put o.dst undef).tmps ∧ (a.put o.dst undef).tmps.size = nt)
def RegR (P : Program) (K : Known) (nt : Nat) (ops : Array Oper) (l : List Oper) (env : Env) (S : St) (env' : Env) (S' : St) : Prop :=
  S.nx ≤ S'.nx ∧ ∀ m a w, R S.lk m w → Fre m S.nx S'.nx → Gl K m → EnvOk m env a.tmps → a.tmps.size = nt → a.defers = [] → ∀ Q : Exit → Act → World → Prop,
    (∀ m' a' w', Step K.g m S.lk S.nx w m' S'.lk S'.nx w' → EnvOk m' env' a'.tmps → a'.tmps.size = nt → a'.defers = [] → Q .normal a' w') → wpList P ops Q l a w
/-- code -/
def SoundAt (P : Program) (K : Known) (c : Code) (nt : Nat) (env : Env) (S : St) (o : Out) (env' : Env) (S' : St) : Prop :=
  S.nx ≤ S'.nx ∧ ∀ m a w, R S.lk m w → Fre m S.nx S'.nx → Gl K m → EnvOk m env a.tmps → a.tmps.size = nt → a.defers = [] →
    ∀ Q : Exit → Act → World → Prop, (∀ m' a' w', Step K.g m S.lk S.nx w m' S'.lk S'.nx w' → EnvOk m' env' a'.tmps → a'.tmps.size = nt → a'.defers = [] → Q o.ex a' w') → c.wp P Q a w
def HOk (P : Program) (K : Known) (ih : H) : Prop := ∀ c nt kN kR n t S o1 e1 S1, ih c nt kN kR n t S = .out o1 e1 S1 →
  ∃ o n' t' S', ((o = .norm ∧ kN n' t' S' = .out o1 e1 S1) ∨ (o = .ret ∧ kR n' t' S' = .out o1 e1 S1)) ∧ SoundAt P K c nt ⟨n, t⟩ S o ⟨n', t'⟩ S'
def CopOk (P : Program) (K : Known) (nt : Nat) (all : List Oper) (o : Oper) (q : H → G → G) : Prop := ∀ ih k n t S o1 e1 S1, HOk P K ih → q ih k n t S = .out o1 e1 S1 →
  ∃ n' t' S', k n' t' S' = .out o1 e1 S1 ∧ StepR P K nt all o ⟨n, t⟩ S ⟨n', t'⟩ S'
def CopsOk (P : Program) (K : Known) (nt : Nat) (ops : Array Oper) (l : List Oper) (q : H → G → G) : Prop := ∀ ih k n t S o1 e1 S1, HOk P K ih → q ih k n t S = .out o1 e1 S1 →
  ∃ n' t' S', k n' t' S' = .out o1 e1 S1 ∧ RegR P K nt ops l ⟨n, t⟩ S ⟨n', t'⟩ S'
def sel (kN kR : G) (kE : Nat → G) : Out → G
  | .norm => kN
  | .ret => kR
  | .exit i => kE i
def CodeOk (P : Program) (K : Known) (nt : Nat) (c : Code) (q : C) : Prop := ∀ ih kN kR kE n t S o1 e1 S1, HOk P K ih → q ih kN kR kE n t S = .out o1 e1 S1 →
  ∃ o n' t' S', sel kN kR kE o n' t' S' = .out o1 e1 S1 ∧ SoundAt P K c nt ⟨n, t⟩ S o ⟨n', t'⟩ S'

/-! operands -/
theorem gP_ok : ∀ k d, ∃ g, gP k d = .mk g ∧ ∀ U, g U = U.get d
  | 0, d => ⟨_, rfl, fun U => rfl⟩
  | k + 1, d => by
    obtain ⟨g, hg, hg'⟩ := gP_ok k (d / 4)
    have hm : d % 4 = 0 ∨ d % 4 = 1 ∨ d % 4 = 2 ∨ d % 4 = 3 := by omega
    have hv : ∀ v : Option AV, (Bool.rec none v (Nat.beq d 0) : Option AV) = (T.vl v).get d := fun v => rfl
    rcases hm with m | m | m | m
    · refine ⟨fun U => T.rec (motive := fun _ => Option AV) (fun v => Bool.rec none v (Nat.beq d 0)) (fun a _ _ _ _ _ _ _ => g a) U, by unfold gP; rw [hg]; show (match d % 4 with | 0 => _ | 1 => _ | 2 => _ | _ => _) = _; rw [m]; rfl, fun U => ?_⟩
      cases U with
      | vl v => rfl
      | nd a b c e => rw [T.get_nd, if_pos m]; exact hg' a
    · have m0 : ¬ d % 4 = 0 := by omega
      refine ⟨fun U => T.rec (motive := fun _ => Option AV) (fun v => Bool.rec none v (Nat.beq d 0)) (fun _ b _ _ _ _ _ _ => g b) U, by unfold gP; rw [hg]; show (match d % 4 with | 0 => _ | 1 => _ | 2 => _ | _ => _) = _; rw [m]; rfl, fun U => ?_⟩
      cases U with
      | vl v => rfl
      | nd a b c e => rw [T.get_nd, if_neg m0, if_pos m]; exact hg' b
    · have m0 : ¬ d % 4 = 0 := by omega
      have m1 : ¬ d % 4 = 1 := by omega
      refine ⟨fun U => T.rec (motive := fun _ => Option AV) (fun v => Bool.rec none v (Nat.beq d 0)) (fun _ _ c _ _ _ _ _ => g c) U, by unfold gP; rw [hg]; show (match d % 4 with | 0 => _ | 1 => _ | 2 => _ | _ => _) = _; rw [m]; rfl, fun U => ?_⟩
      cases U with
      | vl v => rfl
      | nd a b c e => rw [T.get_nd, if_neg m0, if_neg m1, if_pos m]; exact hg' c
    · have m0 : ¬ d % 4 = 0 := by omega
      have m1 : ¬ d % 4 = 1 := by omega
      have m2 : ¬ d % 4 = 2 := by omega
      refine ⟨fun U => T.rec (motive := fun _ => Option AV) (fun v => Bool.rec none v (Nat.beq d 0)) (fun _ _ _ e _ _ _ _ => g e) U, by unfold gP; rw [hg]; show (match d % 4 with | 0 => _ | 1 => _ | 2 => _ | _ => _) = _; rw [m]; rfl, fun U => ?_⟩
      cases U with
      | vl v => rfl
      | nd a b c e => rw [T.get_nd, if_neg m0, if_neg m1, if_neg m2]; exact hg' e
theorem pP_ok : ∀ k d, ∃ p, pP k d = .mk p ∧ ∀ x U, p x U = U.put x d
  | 0, d => ⟨_, rfl, fun x U => rfl⟩
  | k + 1, d => by
    obtain ⟨g, hg, hg'⟩ := pP_ok k (d / 4)
    have hm : d % 4 = 0 ∨ d % 4 = 1 ∨ d % 4 = 2 ∨ d % 4 = 3 := by omega
    rcases hm with m | m | m | m
    · refine ⟨fun x U => T.rec (motive := fun _ => T AV) (fun v => Bool.rec (.vl v) (.vl x) (Nat.beq d 0)) (fun a b c e _ _ _ _ => .nd (g x a) b c e) U, by unfold pP; rw [hg]; show (match d % 4 with | 0 => _ | 1 => _ | 2 => _ | _ => _) = _; rw [m]; rfl, fun x U => ?_⟩
      cases U with
      | vl v => rfl
      | nd a b c e => rw [T.put_nd, if_pos m, ← hg']
    · have m0 : ¬ d % 4 = 0 := by omega
      refine ⟨fun x U => T.rec (motive := fun _ => T AV) (fun v => Bool.rec (.vl v) (.vl x) (Nat.beq d 0)) (fun a b c e _ _ _ _ => .nd a (g x b) c e) U, by unfold pP; rw [hg]; show (match d % 4 with | 0 => _ | 1 => _ | 2 => _ | _ => _) = _; rw [m]; rfl, fun x U => ?_⟩
      cases U with
      | vl v => rfl
      | nd a b c e => rw [T.put_nd, if_neg m0, if_pos m, ← hg']
    · have m0 : ¬ d % 4 = 0 := by omega
      have m1 : ¬ d % 4 = 1 := by omega
      refine ⟨fun x U => T.rec (motive := fun _ => T AV) (fun v => Bool.rec (.vl v) (.vl x) (Nat.beq d 0)) (fun a b c e _ _ _ _ => .nd a b (g x c) e) U, by unfold pP; rw [hg]; show (match d % 4 with | 0 => _ | 1 => _ | 2 => _ | _ => _) = _; rw [m]; rfl, fun x U => ?_⟩
      cases U with
      | vl v => rfl
      | nd a b c e => rw [T.put_nd, if_neg m0, if_neg m1, if_pos m, ← hg']
    · have m0 : ¬ d % 4 = 0 := by omega
      have m1 : ¬ d % 4 = 1 := by omega
      have m2 : ¬ d % 4 = 2 := by omega
      refine ⟨fun x U => T.rec (motive := fun _ => T AV) (fun v => Bool.rec (.vl v) (.vl x) (Nat.beq d 0)) (fun a b c e _ _ _ _ => .nd a b c (g x e)) U, by unfold pP; rw [hg]; show (match d % 4 with | 0 => _ | 1 => _ | 2 => _ | _ => _) = _; rw [m]; rfl, fun x U => ?_⟩
      cases U with
      | vl v => rfl
      | nd a b c e => rw [T.put_nd, if_neg m0, if_neg m1, if_neg m2, ← hg']
theorem opt_self (x : Option AV) : (Option.rec (motive := fun _ => Option AV) none (fun a => some a) x) = x := by cases x <;> rfl
theorem kcode_ok (x : Operand) (hx : ∀ t, x ≠ .tmp t) (n : Nat) : (Nat.add (kcode K x) 0) < 2 ^ 192 ∧ ∀ t, evo K ⟨n, t⟩ x = dec (Nat.add (kcode K x) 0) (Option.rec (motive := fun _ => Option AV) none (fun a => some a) (evoT x K enew)) := by
  have e : Nat.add (kcode K x) 0 = kcode K x := rfl
  have e2 : ∀ t, evo K ⟨n, t⟩ x = evoT x K enew := fun t => by cases x <;> first | rfl | exact absurd rfl (hx _)
  rw [e, opt_self]
  unfold kcode
  cases hv : evoT x K enew with
  | none => exact ⟨by decide, fun t => by rw [e2, hv]; rfl⟩
  | some v =>
    refine ⟨ccap_lt _, fun t => ?_⟩
    rw [e2, hv]
    show some v = dec (ccap (enc v)) (some v)
    rcases dec_ccap v (some v) with h | h
    · rw [h]; rfl
    · exact h.symm
theorem oc_ok (x : Operand) (nt : Nat) : ∃ f g, ocB K x = .mk f ∧ bxB K nt x = .mk g ∧ ∀ n, f n < 2 ^ 192 ∧ ∀ t, evo K ⟨n, t⟩ x = dec (f n) (g t) := by
  cases x with
  | tmp t =>
    obtain ⟨g, hg, hg'⟩ := gP_ok (dep nt) t
    exact ⟨_, g, rfl, hg, fun n => ⟨slot_lt n t, fun U => by rw [hg']; rfl⟩⟩
  | const v => exact ⟨_, _, rfl, rfl, fun n => kcode_ok (.const v) (fun _ h => by cases h) n⟩
  | global v => exact ⟨_, _, rfl, rfl, fun n => kcode_ok (.global v) (fun _ h => by cases h) n⟩
  | func v => exact ⟨_, _, rfl, rfl, fun n => kcode_ok (.func v) (fun _ h => by cases h) n⟩

theorem reg_nil {nt : Nat} {ops : Array Oper} {env : Env} {S : St} : RegR P K nt ops [] env S env S :=
  ⟨Nat.le_refl _, fun m a w hR hf hG hE hn hd Q hq => hq m a w (Step.refl hR) hE hn hd⟩
theorem reg_cons {nt : Nat} {ops : Array Oper} {o : Oper} {l : List Oper} {env env1 env' : Env} {S S1 S' : St} (h1 : StepR P K nt ops.toList o env S env1 S1) (h2 : RegR P K nt ops l env1 S1 env' S') : RegR P K nt ops (o :: l) env S env' S' := by
  obtain ⟨l2, q2⟩ := h2
  rcases h1 with ⟨hw, l1, q1⟩ | ⟨hw, rfl, q1⟩
  · refine ⟨Nat.le_trans l1 l2, fun m a w hR hf hG hE hn hd Q hq => ?_⟩
    simp only [wpList, awant_ok hE hw, if_true]
    refine .inl (q1 m a w hR (hf.le l2) hG hE hn hd _ _ fun m1 a1 w1 st hE1 hn1 hd1 => ?_)
    exact q2 m1 a1 w1 st.rel (hf.step st) (hG.ext st.ext) hE1 hn1 hd1 Q fun m' a' w' st' => hq m' a' w' (st.trans st')
  · refine ⟨l2, fun m a w hR hf hG hE hn hd Q hq => ?_⟩
    simp only [wpList, awant_ok hE hw, Bool.false_eq_true, if_false]
    obtain ⟨e1, e2⟩ := q1 m a hE hn
    exact q2 m _ w hR hf hG e1 e2 (by rw [put_defers]; exact hd) Q hq
theorem cops_ok {nt : Nat} (hcop : ∀ all o, ∃ q, cop P K nt all o = .mk q ∧ CopOk P K nt all o q) (ops : Array Oper) : ∀ l : List Oper, ∃ q, cops P K nt ops.toList l = .mk q ∧ CopsOk P K nt ops l q
  | [] => ⟨_, rfl, fun ih k n t S o1 e1 S1 _ h => ⟨n, t, S, h, reg_nil⟩⟩
  | o :: l => by
    obtain ⟨f, hf, hf'⟩ := hcop ops.toList o
    obtain ⟨g, hg, hg'⟩ := cops_ok hcop ops l
    refine ⟨fun ih k n t S => f ih (g ih k) n t S, by unfold cops; rw [hf, hg]; rfl, fun ih k n t S o1 e1 S1 hi h => ?_⟩
    obtain ⟨n1, t1, S2, h1, h2⟩ := hf' ih (g ih k) n t S o1 e1 S1 hi h
    obtain ⟨n2, t2, S3, h3, h4⟩ := hg' ih k n1 t1 S2 o1 e1 S1 hi h1
    exact ⟨n2, t2, S3, h3, reg_cons h2 h4⟩
theorem dih_ok {ih : H} (hi : HOk P K ih) : Sound P K (dih ih) := by
  intro c nt env S o env' S' h
  unfold dih at h
  cases hr : ih c nt (fun n t S => .out .norm ⟨n, t⟩ S) (fun n t S => .out .ret ⟨n, t⟩ S) env.n env.t S with
  | bad l => rw [hr] at h; cases h
  | out o1 e1 S1 =>
    rw [hr] at h
    cases h
    obtain ⟨o2, n', t', S2, h1, h2⟩ := hi _ _ _ _ _ _ _ _ _ _ hr
    rcases h1 with ⟨rfl, h1⟩ | ⟨rfl, h1⟩
    · cases h1; exact h2
    · cases h1; exact h2
theorem done_eq (k : G) (n : Nat) (t : T AV) (S : St) : done k n t S = k n t S := by
  cases t <;> rfl
/-! code by code -/
theorem sound_loop_more {b : Code} {nt : Nat} {env env1 env' : Env} {S S1 S' : St} {o : Out} (h1 : SoundAt P K b nt env S .norm env1 S1) (h2 : SoundAt P K (.loop b) nt env1 S1 o env' S') : SoundAt P K (.loop b) nt env S o env' S' := by
  obtain ⟨l1, q1⟩ := h1
  obtain ⟨l2, q2⟩ := h2
  refine ⟨Nat.le_trans l1 l2, fun m a w hR hf hG hE hn hd Q hq => ?_⟩
  refine wp_mono (wp_unroll (Q := fun e a w => Q e a w ∧ (e = .normal ∨ (∃ id, e = .exit id) ∨ e = .ret)) (fun e a w hq => hq.2) ?_) (fun e a w hq => hq.1)
  refine q1 m a w hR (hf.le l2) hG hE hn hd _ fun m1 a1 w1 st hE1 hn1 hd1 => ?_
  refine q2 m1 a1 w1 st.rel (hf.step st) (hG.ext st.ext) hE1 hn1 hd1 _ fun m' a' w' st' hE' hn' hd' => ⟨hq m' a' w' (st.trans st') hE' hn' hd', ?_⟩
  cases o with
  | norm => exact .inl rfl
  | exit i => exact .inr (.inl ⟨i, rfl⟩)
  | ret => exact .inr (.inr rfl)
theorem sound_loop_end {b : Code} {nt : Nat} {env env' : Env} {S S' : St} {o : Out} (ho : o ≠ .norm) (h1 : SoundAt P K b nt env S o env' S') : SoundAt P K (.loop b) nt env S o env' S' := by
  obtain ⟨l1, q1⟩ := h1
  refine ⟨l1, fun m a w hR hf hG hE hn hd Q hq => ?_⟩
  refine wp_mono (wp_unroll (Q := fun e a w => Q e a w ∧ (e = .normal ∨ (∃ id, e = .exit id) ∨ e = .ret)) (fun e a w hq => hq.2) ?_) (fun e a w hq => hq.1)
  refine q1 m a w hR hf hG hE hn hd _ fun m1 a1 w1 st hE1 hn1 hd1 => ?_
  have := hq m1 a1 w1 st hE1 hn1 hd1
  cases o with
  | norm => exact absurd rfl ho
  | exit i => exact ⟨this, .inr (.inl ⟨i, rfl⟩)⟩
  | ret => exact ⟨this, .inr (.inr rfl)⟩
theorem cloop_ok {b : Code} {nt : Nat} {q : C} (hq : CodeOk P K nt b q) {ih : H} (hi : HOk P K ih) (kN kR : G) (kE : Nat → G) : ∀ (r : Nat) n t S o1 e1 S1, cloop q ih kR kE r n t S = .out o1 e1 S1 →
    ∃ o n' t' S', sel kN kR kE o n' t' S' = .out o1 e1 S1 ∧ SoundAt P K (.loop b) nt ⟨n, t⟩ S o ⟨n', t'⟩ S'
  | 0, n, t, S, o1, e1, S1, h => by cases h
  | r + 1, n, t, S, o1, e1, S1, h => by
    have h : q ih (done (cloop q ih kR kE r)) kR kE n t S = .out o1 e1 S1 := h
    obtain ⟨o, n', t', S', h1, h2⟩ := hq _ _ _ _ _ _ _ _ _ _ hi h
    cases o with
    | norm =>
      have h1 : done (cloop q ih kR kE r) n' t' S' = .out o1 e1 S1 := h1
      rw [done_eq] at h1
      obtain ⟨o2, n2, t2, S2, h3, h4⟩ := cloop_ok hq hi kN kR kE r n' t' S' o1 e1 S1 h1
      exact ⟨o2, n2, t2, S2, h3, sound_loop_more h2 h4⟩
    | exit i => exact ⟨.exit i, n', t', S', h1, sound_loop_end (fun h => by cases h) h2⟩
    | ret => exact ⟨.ret, n', t', S', h1, sound_loop_end (fun h => by cases h) h2⟩
theorem sound_seq {x y : Code} {nt : Nat} {env env1 env' : Env} {S S1 S' : St} {o : Out} (h1 : SoundAt P K x nt env S .norm env1 S1) (h2 : SoundAt P K y nt env1 S1 o env' S') : SoundAt P K (.seq x y) nt env S o env' S' := by
  obtain ⟨l1, q1⟩ := h1
  obtain ⟨l2, q2⟩ := h2
  refine ⟨Nat.le_trans l1 l2, fun m a w hR hf hG hE hn hd Q hq => wp_seq ?_⟩
  refine q1 m a w hR (hf.le l2) hG hE hn hd _ fun m1 a1 w1 st hE1 hn1 hd1 => ?_
  exact q2 m1 a1 w1 st.rel (hf.step st) (hG.ext st.ext) hE1 hn1 hd1 Q fun m' a' w' st' => hq m' a' w' (st.trans st')
theorem sound_seq_end {x y : Code} {nt : Nat} {env env' : Env} {S S' : St} {o : Out} (ho : o ≠ .norm) (h1 : SoundAt P K x nt env S o env' S') : SoundAt P K (.seq x y) nt env S o env' S' := by
  obtain ⟨l1, q1⟩ := h1
  refine ⟨l1, fun m a w hR hf hG hE hn hd Q hq => wp_seq ?_⟩
  refine q1 m a w hR hf hG hE hn hd _ fun m1 a1 w1 st hE1 hn1 hd1 => ?_
  have := hq m1 a1 w1 st hE1 hn1 hd1
  cases o with
  | norm => exact absurd rfl ho
  | exit i => exact this
  | ret => exact this
theorem sound_block {id : Nat} {b : Code} {nt : Nat} {env env' : Env} {S S' : St} {o : Out} (h1 : SoundAt P K b nt env S o env' S') : SoundAt P K (.block id b) nt env S (match o with
    | .exit i => if i = id then .norm else .exit i
    | o => o) env' S' := by
  obtain ⟨l1, q1⟩ := h1
  refine ⟨l1, fun m a w hR hf hG hE hn hd Q hq => wp_block ?_⟩
  refine q1 m a w hR hf hG hE hn hd _ fun m1 a1 w1 st hE1 hn1 hd1 => ?_
  have := hq m1 a1 w1 st hE1 hn1 hd1
  cases o with
  | norm => exact this
  | ret => exact this
  | exit i =>
    simp only at this
    by_cases hi : i = id
    · rw [if_pos hi] at this
      simp only [Out.ex, Out.exit', Exit.inBlock, hi, if_true]
      exact this
    · rw [if_neg hi] at this
      simp only [Out.ex, Out.exit', Exit.inBlock, hi, if_false]
      exact this
theorem cc_ok (hK : KnownOk P K) {draw : Draw} (hD : DrawOk P K draw) (hcop : ∀ nt all o, ∃ q, cop P K nt all o = .mk q ∧ CopOk P K nt all o q) {nt : Nat} : ∀ c : Code, ∃ q, cc P K draw nt c = .mk q ∧ CodeOk P K nt c q
  | .skip => ⟨_, rfl, fun ih kN kR kE n t S o1 e1 S1 _ h => ⟨.norm, n, t, S, h, Nat.le_refl _, fun m a w hR hf hG hE hn hd Q hq => wp_skip (hq m a w (Step.refl hR) hE hn hd)⟩⟩
  | .region id ops true => ⟨_, rfl, fun ih kN kR kE n t S o1 e1 S1 hi h => by
      have h : cdraw draw nt id ops ih kN n t S = .out o1 e1 S1 := h
      unfold cdraw at h
      cases hr : draw (dih ih) ops nt id ⟨n, t⟩ S with
      | bad l => rw [hr] at h; cases h
      | ok e S' =>
        rw [hr] at h
        obtain ⟨n', t'⟩ := e
        exact ⟨.norm, n', t', S', h, hD _ (dih_ok hi) _ _ _ _ _ _ _ hr⟩⟩
  | .region id ops false => by
    obtain ⟨f, hf, hf'⟩ := cops_ok (hcop nt) ops ops.toList
    refine ⟨fun ih kN _ _ n t S => f ih kN n t S, by unfold cc; rw [hf]; rfl, fun ih kN kR kE n t S o1 e1 S1 hi h => ?_⟩
    obtain ⟨n', t', S', h1, l1, q1⟩ := hf' _ _ _ _ _ _ _ _ hi h
    exact ⟨.norm, n', t', S', h1, l1, fun m a w hR hf hG hE hn hd Q hq => wp_region_list (q1 m a w hR hf hG hE hn hd Q hq)⟩
  | .seq a b => by
    obtain ⟨f, hf, hf'⟩ := cc_ok hK hD hcop a
    obtain ⟨g, hg, hg'⟩ := cc_ok hK hD hcop b
    refine ⟨fun ih kN kR kE n t S => f ih (g ih kN kR kE) kR kE n t S, by unfold cc; rw [hf, hg]; rfl, fun ih kN kR kE n t S o1 e1 S1 hi h => ?_⟩
    obtain ⟨o, n1, t1, S2, h1, h2⟩ := hf' _ _ _ _ _ _ _ _ _ _ hi h
    cases o with
    | norm =>
      obtain ⟨o, n3, t3, S3, h3, h4⟩ := hg' _ _ _ _ _ _ _ _ _ _ hi h1
      exact ⟨o, n3, t3, S3, h3, sound_seq h2 h4⟩
    | exit i => exact ⟨.exit i, n1, t1, S2, h1, sound_seq_end (fun h => by cases h) h2⟩
    | ret => exact ⟨.ret, n1, t1, S2, h1, sound_seq_end (fun h => by cases h) h2⟩
  | .cond x a b => by
    obtain ⟨h, gx, hx, _, hx'⟩ := oc_ok (K := K) x nt
    obtain ⟨f, hf, hf'⟩ := cc_ok hK hD hcop a
    obtain ⟨g, hg, hg'⟩ := cc_ok hK hD hcop b
    refine ⟨fun ih kN kR kE n t S => Bool.rec (Bool.rec (.bad [888]) (g ih kN kR kE n t S) (Nat.beq (h n) 2)) (f ih kN kR kE n t S) (Nat.beq (h n) 34), by unfold cc; rw [hx, hf, hg]; rfl, fun ih kN kR kE n t S o1 e1 S1 hi hh => ?_⟩
    obtain ⟨_, hev⟩ := hx' n
    have hh : (Bool.rec (Bool.rec (.bad [888]) (g ih kN kR kE n t S) (Nat.beq (h n) 2)) (f ih kN kR kE n t S) (Nat.beq (h n) 34) : Fin) = .out o1 e1 S1 := hh
    cases hb : Nat.beq (h n) 34 with
    | true =>
      rw [hb] at hh
      rw [Nat.beq_eq] at hb
      obtain ⟨o, n1, t1, S2, h1, l1, q1⟩ := hf' _ _ _ _ _ _ _ _ _ _ hi hh
      refine ⟨o, n1, t1, S2, h1, l1, fun m a w hR hf hG hE hn hd Q hq => wp_cond_true ?_ (q1 m a w hR hf hG hE hn hd Q hq)⟩
      have h3 := hev t
      rw [hb] at h3
      have := evo_ok hG hE x (.b true) (h3.trans rfl)
      simpa [cvo] using this.symm
    | false =>
      rw [hb] at hh
      cases hb2 : Nat.beq (h n) 2 with
      | false => rw [hb2] at hh; cases hh
      | true =>
      rw [hb2] at hh
      rw [Nat.beq_eq] at hb2
      obtain ⟨o, n1, t1, S2, h1, l1, q1⟩ := hg' _ _ _ _ _ _ _ _ _ _ hi hh
      refine ⟨o, n1, t1, S2, h1, l1, fun m a w hR hf hG hE hn hd Q hq => wp_cond_false ?_ (q1 m a w hR hf hG hE hn hd Q hq)⟩
      have h3 := hev t
      rw [hb2] at h3
      have := evo_ok hG hE x (.b false) (h3.trans rfl)
      simpa [cvo] using this.symm
  | .block id b => by
    obtain ⟨f, hf, hf'⟩ := cc_ok hK hD hcop b
    refine ⟨fun ih kN kR kE n t S => f ih kN kR (fun i => Bool.rec (kE i) kN (Nat.beq i id)) n t S, by unfold cc; rw [hf]; rfl, fun ih kN kR kE n t S o1 e1 S1 hi h => ?_⟩
    obtain ⟨o, n1, t1, S2, h1, h2⟩ := hf' _ _ _ _ _ _ _ _ _ _ hi h
    refine ⟨_, n1, t1, S2, ?_, sound_block h2⟩
    cases o with
    | norm => exact h1
    | ret => exact h1
    | exit i =>
      have h1 : (Bool.rec (motive := fun _ => G) (kE i) kN (Nat.beq i id)) n1 t1 S2 = .out o1 e1 S1 := h1
      simp only
      by_cases hi : i = id
      · rw [if_pos hi]; rw [bq hi] at h1; exact h1
      · rw [if_neg hi]; rw [bqn hi] at h1; exact h1
  | .loop b => by
    obtain ⟨f, hf, hf'⟩ := cc_ok hK hD hcop b
    exact ⟨fun ih kN kR kE n t S => cloop f ih kR kE rounds n t S, by unfold cc; rw [hf]; rfl, fun ih kN kR kE n t S o1 e1 S1 hi h => cloop_ok hf' hi kN kR kE rounds n t S o1 e1 S1 h⟩
  | .exit id => ⟨_, rfl, fun ih kN kR kE n t S o1 e1 S1 _ h => ⟨.exit id, n, t, S, h, Nat.le_refl _, fun m a w hR hf hG hE hn hd Q hq => wp_exit (hq m a w (Step.refl hR) hE hn hd)⟩⟩
  | .ret => ⟨_, rfl, fun ih kN kR kE n t S o1 e1 S1 _ h => ⟨.ret, n, t, S, h, Nat.le_refl _, fun m a w hR hf hG hE hn hd Q hq => wp_ret (hq m a w (Step.refl hR) hE hn hd)⟩⟩
  | .rangeFunc _ _ _ _ => ⟨_, rfl, fun ih kN kR kE n t S o1 e1 S1 _ h => by cases h⟩
  | .scope _ => ⟨_, rfl, fun ih kN kR kE n t S o1 e1 S1 _ h => by cases h⟩
  | .label _ => ⟨_, rfl, fun ih kN kR kE n t S o1 e1 S1 _ h => by cases h⟩
  | .goto _ => ⟨_, rfl, fun ih kN kR kE n t S o1 e1 S1 _ h => by cases h⟩
  | .refuse _ => ⟨_, rfl, fun ih kN kR kE n t S o1 e1 S1 _ h => by cases h⟩
theorem hN_ok (hK : KnownOk P K) {draw : Draw} (hD : DrawOk P K draw) (hcop : ∀ nt all o, ∃ q, cop P K nt all o = .mk q ∧ CopOk P K nt all o q) : ∀ fuel, HOk P K (hN P K draw fuel)
  | 0 => fun c nt kN kR n t S o1 e1 S1 h => by cases h
  | fuel + 1 => fun c nt kN kR n t S o1 e1 S1 h => by
    have h : unB (cc P K draw nt c) (fun q => q (hN P K draw fuel) kN kR (fun i _ _ _ => .bad [997, i]) n t S) = .out o1 e1 S1 := h
    obtain ⟨q, hq, hq'⟩ := cc_ok hK hD hcop (nt := nt) c
    rw [hq] at h
    obtain ⟨o, n1, t1, S2, h1, h2⟩ := hq' _ _ _ _ _ _ _ _ _ _ (hN_ok hK hD hcop fuel) h
    cases o with
    | norm => exact ⟨_, n1, t1, S2, .inl ⟨rfl, h1⟩, h2⟩
    | ret => exact ⟨_, n1, t1, S2, .inr ⟨rfl, h1⟩, h2⟩
    | exit i => cases h1
end
end Am
end
section
namespace Am
open Go
noncomputable section
variable {P : Program} {K : Known}

def Cop1Ok (P : Program) (K : Known) (nt : Nat) (dst : Option Tmp) (op : Op) (q : H → G → G) : Prop := ∀ ih k n t S o1 e1 S1, HOk P K ih → q ih k n t S = .out o1 e1 S1 →
  ∃ n' t' S', k n' t' S' = .out o1 e1 S1 ∧ ∀ o : Oper, o.dst = dst → o.op = op → OpR P K nt o ⟨n, t⟩ S ⟨n', t'⟩ S'
/-- what an operation gives -/
def OpV (P : Program) (K : Known) (o : Oper) (ρ : Rho) (S : St) (r : AV) (S1 : St) : Prop :=
  S.nx ≤ S1.nx ∧ ∀ m a w, R S.lk m w → Fre m S.nx S1.nx → Gl K m → RhoOk m ρ a.eval → ∀ (next : Act → World → Prop) (Q : Exit → Act → World → Prop),
    (∀ m' v w', Step K.g m S.lk S.nx w m' S1.lk S1.nx w' → cvo m' r = some v → next (a.put o.dst v) w') → o.wp P a w next Q
theorem opR_upd {nt : Nat} {o : Oper} {env env1 : Env} {S S1 : St} {v : AV} (h : OpV P K o (evo K env) S v S1) (hu : Upd nt env o.dst v env1) : OpR P K nt o env S env1 S1 := by
  obtain ⟨l1, q1⟩ := h
  refine ⟨l1, fun m a w hR hf hG hE hn hd next Q hq => q1 m a w hR hf hG (evo_ok hG hE) _ _ fun m1 u w1 st hv => ?_⟩
  obtain ⟨e1, e2⟩ := upd_ok (u := u) hu (hE.ext st.ext) hn hv
  exact hq m1 _ w1 st e1 e2 (by rw [put_defers]; exact hd)
theorem aft_out {x : Option Env} {k : G} {S : St} {o1 : Out} {e1 : Env} {S1 : St} (h : aft x k S = .out o1 e1 S1) : ∃ n t, x = some ⟨n, t⟩ ∧ k n t S = .out o1 e1 S1 := by
  cases x with
  | none => cases h
  | some e => obtain ⟨n, t⟩ := e; exact ⟨n, t, rfl, h⟩
theorem noIh_ok : Sound P K noIh := fun _ _ _ _ _ _ _ h => by cases h
theorem opV_aop (hK : KnownOk P K) {ih : IH} (hS : Sound P K ih) {S S1 : St} {ρ : Rho} {o : Oper} {r : AV} (h : aop P K ih S ρ o.op = .ok r S1) : OpV P K o ρ S r S1 := aop_ok hK hS h
theorem opV_aop0 (hK : KnownOk P K) {ih : IH} (hS : Sound P K ih) {S S1 : St} {ρ : Rho} {o : Oper} {r : AV} (h : aop0 P K ih S ρ o.op = .ok r S1) : OpV P K o ρ S r S1 := aop0_ok hK hS h
theorem mid_ok (hK : KnownOk P K) (nt : Nat) (dst : Option Tmp) (op : Op) : Cop1Ok P K nt dst op (mid P K nt dst op) := by
  intro ih k n t S o1 e1 S1 hi h
  unfold mid at h
  cases ha : aop P K noIh S (evo K ⟨n, t⟩) op with
  | bad l => rw [ha] at h; cases h
  | ok v S' =>
    rw [ha] at h
    have h : aft (aput nt ⟨n, t⟩ dst v) k S' = .out o1 e1 S1 := h
    obtain ⟨n', t', h1, h2⟩ := aft_out h
    refine ⟨n', t', S', h2, fun o ho1 ho2 => ?_⟩
    subst ho1 ho2
    exact opR_upd (opV_aop hK noIh_ok ha) (aput_upd h1)
/-! places -/
theorem upd_place {nt n d c : Nat} {t : T AV} {x : Option AV} {v : AV} (hd : d < nt) (hc : c < 2 ^ 192) (hv : ∀ y, dec c x = some y → y = v) : Upd nt ⟨n, t⟩ (some d) v ⟨pset n d c, tcap c x t d⟩ :=
  ⟨hd, fun k a hk => by
    rcases eget_place hc hk with ⟨h1, h2⟩ | h1
    · exact .inl ⟨h1, hv a h2⟩
    · exact .inr h1⟩
theorem upd_code {nt n d c : Nat} {t : T AV} {v : AV} (hd : d < nt) (hc : c < 2 ^ 192) (hv : ∀ bx, dec c bx = some v) : Upd nt ⟨n, t⟩ (some d) v ⟨pset n d c, t⟩ :=
  ⟨hd, fun k a hk => eget_pset hc hv hk⟩
theorem env_at {m : Map} {n d c : Nat} {t : T AV} {x : Option AV} {tmps : Array Value} {u : Value} (hE : EnvOk m ⟨n, t⟩ tmps) (hc : c < 2 ^ 192) (hu : tmps[d]? = some u) (hv : ∀ y, dec c x = some y → cvo m y = some u) : EnvOk m ⟨pset n d c, tcap c x t d⟩ tmps := by
  intro k a hk
  rcases eget_place hc hk with ⟨rfl, h2⟩ | ⟨_, h1⟩
  · exact ⟨u, hu, hv a h2⟩
  · exact hE k a h1
theorem env_place {m : Map} {nt n d c : Nat} {t : T AV} {x : Option AV} {a : Act} {u : Value} (hE : EnvOk m ⟨n, t⟩ a.tmps) (hn : a.tmps.size = nt) (hd : d < nt) (hc : c < 2 ^ 192) (hv : ∀ y, dec c x = some y → cvo m y = some u) :
    EnvOk m ⟨pset n d c, tcap c x t d⟩ (a.put (some d) u).tmps ∧ (a.put (some d) u).tmps.size = nt := by
  refine ⟨fun k b hk => ?_, by simp [Act.put, hn]⟩
  rcases eget_place hc hk with ⟨rfl, h2⟩ | ⟨hne, h1⟩
  · refine ⟨u, by simp [Act.put, hn, hd], hv b h2⟩
  · obtain ⟨v, h3, h4⟩ := hE k b h1
    refine ⟨v, ?_, h4⟩
    simp only [Act.put]; rw [Array.getElem?_setIfInBounds_ne (fun e => hne e.symm)]; exact h3
/-- whatever a place holds, it may be put elsewhere -/
theorem nz_place {n d c : Nat} {t : T AV} {x : Option AV} (hc : c < 2 ^ 192) {k : Nat} {a : AV} (h : eget ⟨pset n d (nz c), t⟩ k = some a) : (k = d ∧ dec c x = some a) ∨ (k ≠ d ∧ eget ⟨n, t⟩ k = some a) := by
  have e : nz c = if c = 1 then 0 else c := by
    show c * (1 - (2 - c)) = _
    by_cases h : c = 1
    · subst h; rfl
    · rw [if_neg h]
      rcases Nat.eq_zero_or_pos c with h0 | h0
      · subst h0; rfl
      · have : 1 - (2 - c) = 1 := by omega
        rw [this, Nat.mul_one]
  unfold eget at h
  simp only at h
  rw [slot_pset (by rw [e]; split; decide; exact hc)] at h
  by_cases hk : k = d
  · rw [if_pos hk, e] at h
    split at h
    · cases h
    · rename_i h1
      exact .inl ⟨hk, by rw [dec_box x (t.get k) h1]; exact h⟩
  · rw [if_neg hk] at h
    exact .inr ⟨hk, h⟩
theorem wp_value {o : Oper} {a : Act} {w w' : World} {v : Value} {next : Act → World → Prop} {Q : Exit → Act → World → Prop} (h : (execOp a.eval o).run P w = .ok (.value v) w') (hn : next (a.put o.dst v) w') : o.wp P a w next Q := by
  unfold Oper.wp; rw [h]; exact hn
theorem run_move {o : Oper} {ev : Operand → Value} {x : Operand} {w : World} (h : o.op = .move x ∨ o.op = .assign x) : (execOp ev o).run P w = .ok (.value (ev x)) w := by
  obtain ⟨dst, op, ty, pos, af, g⟩ := o
  rcases h with h | h <;> simp only at h <;> subst h <;> rfl
/-- a move -/
theorem move_opR {nt d : Nat} {o : Oper} {x : Operand} {n : Nat} {t : T AV} {S : St} {e1 : Env} (ho : o.op = .move x ∨ o.op = .assign x) (hdst : o.dst = some d) (hd : d < nt)
    (he : ∀ k a, eget e1 k = some a → (k = d ∧ evo K ⟨n, t⟩ x = some a) ∨ (k ≠ d ∧ eget ⟨n, t⟩ k = some a)) : OpR P K nt o ⟨n, t⟩ S e1 S := by
  refine ⟨Nat.le_refl _, fun m a w hR hf hG hE hn hdf next Q hq => wp_value (run_move ho) ?_⟩
  refine hq m _ w (Step.refl hR) (fun k b hk => ?_) (by rw [hdst]; simp [Act.put, hn]) (by rw [put_defers]; exact hdf)
  rw [hdst]
  rcases he k b hk with ⟨rfl, h2⟩ | ⟨hne, h1⟩
  · exact ⟨a.eval x, by simp [Act.put, hn, hd], evo_ok hG hE x b h2⟩
  · obtain ⟨v, h3, h4⟩ := hE k b h1
    refine ⟨v, ?_, h4⟩
    simp only [Act.put]; rw [Array.getElem?_setIfInBounds_ne (fun e => hne e.symm)]; exact h3
def FastOk (P : Program) (K : Known) (nt : Nat) (dst : Option Tmp) (op : Op) : Fast → Prop
  | .no => True
  | .act q => ∀ m, Cop1Ok P K nt dst op m → Cop1Ok P K nt dst op (q m)
  | .yes v r => ∀ n t S, v n t S = 0 → r n t S < 2 ^ 192 ∧ ∃ a, (∀ bx, dec (r n t S) bx = some a) ∧ ∀ ih, aop0 P K ih S (evo K ⟨n, t⟩) op = .ok a S
theorem inD_ok {nt : Nat} {dst : Option Tmp} {op : Op} {f : Tmp → (Option AV → T AV → T AV) → Fast} (h : ∀ d p, dst = some d → d < nt → (∀ x U, p x U = U.put x d) → FastOk P K nt dst op (f d p)) : FastOk P K nt dst op (inD nt dst f) := by
  unfold inD
  cases dst with
  | none => trivial
  | some d =>
    simp only
    rw [cnd_eq]
    split
    · rename_i hb
      rw [blt_iff] at hb
      obtain ⟨p, hp, hp'⟩ := pP_ok (dep nt) d
      rw [hp]
      exact h d p rfl hb hp'
    · trivial
theorem tcap_eq {p : Option AV → T AV → T AV} {d c : Nat} (hp : ∀ x U, p x U = U.put x d) (x : Option AV) (U : T AV) : (Bool.rec U (p x U) (Nat.beq c 1) : T AV) = tcap c x U d := by rw [hp]; rfl
theorem fMove_ok {nt : Nat} {ty : TypeId} {dst : Option Tmp} {op : Op} {x : Operand} (ho : op = .move x ∨ op = .assign x) {f : Nat → Nat} {g : T AV → Option AV} (hfg : ∀ n, f n < 2 ^ 192 ∧ ∀ t, evo K ⟨n, t⟩ x = dec (f n) (g t)) : FastOk P K nt dst op (fMove P nt ty dst f g) := by
  unfold fMove
  refine inD_ok fun d p hdst hd hp => ?_
  rw [cnd_eq]
  split
  · intro m _ ih k n t S o1 e1 S1 hi h
    refine ⟨pset n d (nz (f n)), t, S, h, fun o ho1 ho2 => ?_⟩
    refine move_opR (x := x) (by rw [ho2]; exact ho) (by rw [ho1]; exact hdst) hd fun j a hj => ?_
    rw [(hfg n).2 t]
    exact nz_place (hfg n).1 hj
  · intro m _ ih k n t S o1 e1 S1 hi h
    refine ⟨pset n d (f n), tcap (f n) (g t) t d, S, by rw [← tcap_eq hp]; exact h, fun o ho1 ho2 => ?_⟩
    refine move_opR (x := x) (by rw [ho2]; exact ho) (by rw [ho1]; exact hdst) hd fun j a hj => ?_
    rw [(hfg n).2 t]
    exact eget_place (hfg n).1 hj
/-! calls -/
theorem crun_ok (hK : KnownOk P K) {ih : H} (hi : HOk P K ih) {S : St} {f : FuncId} {as : List AV} {kv : AV → St → Fin} {o1 : Out} {e1 : Env} {S1 : St} (h : crun P K ih S f as kv = .out o1 e1 S1) :
    ∃ v S', kv v S' = .out o1 e1 S1 ∧ S.nx ≤ S'.nx ∧ ∀ m w args, R S.lk m w → Fre m S.nx S'.nx → Gl K m → cvs m as = some args →
      ((∀ args w, (callFunc f args).run P w = .ok (.enter f args) w) ∧ Calls P f args.toArray w (Got K m S w S' v)) ∨ (∃ m' w' u, (callFunc f args.toArray).run P w = .ok (.value u) w' ∧ cvo m' v = some u ∧ Step K.g m S.lk S.nx w m' S'.lk S'.nx w') := by
  unfold crun at h
  rw [cnd_eq] at h
  split at h
  · rename_i he
    cases hfn : fnc P f with
    | none => rw [hfn] at h; cases h
    | some fn =>
      rw [hfn] at h
      cases hb : fn.body with
      | none => simp only [hb] at h; cases h
      | some c =>
        simp only [hb] at h
        rw [cnd_eq] at h
        split at h
        · rename_i hl
          obtain ⟨n0, t0, he0⟩ : ∃ n0 t0, ienv as 0 enew = ⟨n0, t0⟩ := ⟨_, _, rfl⟩
          rw [he0] at h
          have h : ih c fn.ntmps (rk P K fn kv) (rk P K fn kv) n0 t0 S = .out o1 e1 S1 := h
          obtain ⟨o, n', t', S', h1, h2⟩ := hi _ _ _ _ _ _ _ _ _ _ h
          have h3 : rk P K fn kv n' t' S' = .out o1 e1 S1 := by rcases h1 with ⟨_, h1⟩ | ⟨_, h1⟩ <;> exact h1
          have ho : o = .norm ∨ o = .ret := by rcases h1 with ⟨h1, _⟩ | ⟨h1, _⟩; exact .inl h1; exact .inr h1
          unfold rk at h3
          cases hv : ares P K ⟨n', t'⟩ S' fn.results.toList with
          | none => rw [hv] at h3; cases h3
          | some v =>
            rw [hv] at h3
            -- a machine that knows this body alone
            let ihx : IH := fun c' nt' env' S0 => @ite _ (c' = c ∧ nt' = fn.ntmps ∧ env' = ⟨n0, t0⟩ ∧ S0 = S) (Classical.propDecidable _) (.ok o ⟨n', t'⟩ S') (.bad [])
            have hx : Sound P K ihx := by
              intro c' nt' env' S0 o2 e2 S2 hh
              simp only [ihx] at hh
              split at hh
              · rename_i hc
                obtain ⟨rfl, rfl, rfl, rfl⟩ := hc
                cases hh
                exact h2
              · cases hh
            have hcall : acallf P K ihx S f as = .ok v S' := by
              unfold acallf
              have hix : ihx c fn.ntmps (ienv as 0 enew) S = .ok o ⟨n', t'⟩ S' := by simp only [ihx, he0, and_self, if_true]
              rw [he, cond_true, hfn]
              simp only [hb, hl, cond_true, hix]
              rcases ho with rfl | rfl <;> simp only [hv]
            obtain ⟨q1, q2⟩ := acallf_ok hK hx hcall
            exact ⟨v, S', h3, q1, q2⟩
        · cases h
  · rename_i he
    cases hx : aext P K S f as with
    | none => rw [hx] at h; cases h
    | some p =>
      obtain ⟨v, S'⟩ := p
      rw [hx] at h
      have h : kv v S' = .out o1 e1 S1 := h
      have hcall : acallf P K noIh S f as = .ok v S' := by
        unfold acallf
        rw [Bool.eq_false_iff.2 he, cond_false, hx]
      obtain ⟨q1, q2⟩ := acallf_ok hK noIh_ok hcall
      exact ⟨v, S', h, q1, q2⟩
theorem gcall_ok (hK : KnownOk P K) (nt : Nat) (dst : Option Tmp) (op : Op) : Cop1Ok P K nt dst op (gcall P K nt dst op) := by
  intro ih k n t S o1 e1 S1 hi h
  unfold gcall at h
  cases hc : acallee (evo K ⟨n, t⟩) op with
  | none => rw [hc] at h; cases h
  | some p =>
    obtain ⟨f, as⟩ := p
    rw [hc] at h
    have h : crun P K ih S f as (fun v S' => aft (aput nt ⟨n, t⟩ dst v) k S') = .out o1 e1 S1 := h
    obtain ⟨v, S', h1, l1, q1⟩ := crun_ok hK hi h
    obtain ⟨n', t', h2, h3⟩ := aft_out h1
    refine ⟨n', t', S', h3, fun o ho1 ho2 => ?_⟩
    subst ho1 ho2
    refine opR_upd (v := v) ⟨l1, fun m a w hR hf hG hρ next Q hn => ?_⟩ (aput_upd h2)
    obtain ⟨args, ha, hrun⟩ := acallee_ok (P := P) hρ hc
    unfold Oper.wp
    rw [hrun]
    rcases q1 m w args hR hf hG ha with ⟨he, hcalls⟩ | ⟨m', w', u, h4, h5, h6⟩
    · rw [he]
      refine Calls.mono hcalls ?_
      rintro e w' ⟨m', u, rfl, h4, h5⟩
      exact hn m' u w' h5 h4
    · rw [h4]
      exact hn m' u w' h6 h5
theorem arg_ok (nt nt' : Nat) : ∀ (l : List Operand) (i : Nat), ∃ fa fb, argN K l i = .mk fa ∧ argT K nt nt' l i = .mk fb ∧ ∀ (m : Map) (a : Act) (n : Nat) (t : T AV), Gl K m → EnvOk m ⟨n, t⟩ a.tmps → ∀ (acc : Nat) (u : T AV) (tmps : Array Value), EnvOk m ⟨acc, u⟩ tmps →
    (∀ j x, l[j]? = some x → tmps[i + j]? = some (a.eval x)) → EnvOk m ⟨fa n acc, fb n t u⟩ tmps
  | [], i => ⟨_, _, rfl, rfl, fun m a n t hG hE acc u tmps h _ => h⟩
  | x :: l, i => by
    obtain ⟨f, b, hf, hb, hfb⟩ := oc_ok (K := K) x nt
    obtain ⟨fa, fb, hfa, hfb', hrec⟩ := arg_ok nt nt' l (Nat.succ i)
    obtain ⟨p, hp, hp'⟩ := pP_ok (dep nt') i
    refine ⟨fun n a => fa n (pset a i (f n)), fun n t u => fb n t (Bool.rec u (p (b t) u) (Nat.beq (f n) 1)), by unfold argN; rw [hf, hfa]; rfl, by unfold argT; rw [hf, hb, hp, hfb']; rfl, fun m a n t hG hE acc u tmps h0 ht => ?_⟩
    refine hrec m a n t hG hE _ _ tmps ?_ fun j y hj => ?_
    · rw [tcap_eq hp']
      refine env_at h0 (hfb n).1 (ht 0 x rfl) fun y hy => ?_
      rw [← (hfb n).2 t] at hy
      exact evo_ok hG hE x y hy
    · have := ht (j + 1) y (by rw [List.getElem?_cons_succ]; exact hj)
      rw [show Nat.succ i + j = i + (j + 1) by omega]; exact this
theorem eget_zero (k : Nat) (U : T AV) : eget ⟨0, U⟩ k = none := by
  unfold eget; simp only; rw [slot_zero]; rfl
/-- a function that is known is called -/
theorem fcall_opR (hK : KnownOk P K) {f : FuncId} {fn : Func} {c : Code} {args : List Operand} {nt : Nat} {o : Oper} {n n' : Nat} {t t' : T AV} {S S' : St} {e1 : Env} {oo : Out} {fa : Nat → Nat → Nat} {fb : Nat → T AV → T AV → T AV} {U : T AV}
    (he : K.enter f = true) (hfn : fnc P f = some fn) (hb : fn.body = some c) (hl : len args ≤ fn.ntmps)
    (harg : ∀ (m : Map) (a : Act) (n : Nat) (t : T AV), Gl K m → EnvOk m ⟨n, t⟩ a.tmps → ∀ (acc : Nat) (u : T AV) (tmps : Array Value), EnvOk m ⟨acc, u⟩ tmps → (∀ j x, args[j]? = some x → tmps[0 + j]? = some (a.eval x)) → EnvOk m ⟨fa n acc, fb n t u⟩ tmps)
    (ho : ∃ tys, o.op = .call ⟨.value (.func f), args.toArray, tys⟩) (hoo : oo = .norm ∨ oo = .ret) (hs : SoundAt P K c fn.ntmps ⟨fa n 0, fb n t U⟩ S oo ⟨n', t'⟩ S')
    (hres : ∀ (m : Map) (a' : Act) (w' : World), R S'.lk m w' → EnvOk m ⟨n', t'⟩ a'.tmps → ∃ v, (results fn a'.tmps).run P w' = .ok v w' ∧ ∀ a : Act, EnvOk m ⟨n, t⟩ a.tmps → a.tmps.size = nt → EnvOk m e1 (a.put o.dst v).tmps ∧ (a.put o.dst v).tmps.size = nt) :
    OpR P K nt o ⟨n, t⟩ S e1 S' := by
  obtain ⟨l1, q1⟩ := hs
  refine ⟨l1, fun m a w hR hf hG hE hn hd next Q hq => ?_⟩
  obtain ⟨tys, ho⟩ := ho
  have hrun : (execOp a.eval o).run P w = (callFunc f (args.map a.eval).toArray).run P w := by
    obtain ⟨dst, op, type, pos, after, guard⟩ := o
    simp only at ho; subst ho
    have e : #[] ++ args.toArray.map a.eval ++ #[] = (args.map a.eval).toArray := by apply Array.ext'; simp
    have e2 : a.eval (.func f) = .func (.func f) #[] #[] := rfl
    simp only [execOp, resolve, Deferred.ofValue, e2, Sem.run_bind, Sem.run_pure, Result.andThen_ok, invoke, e]
  unfold Oper.wp
  rw [hrun, hK.enter f he]
  refine Calls.mono (R := fun e w' => ∃ m' v, e = .returned v ∧ Step K.g m S.lk S.nx w m' S'.lk S'.nx w' ∧ EnvOk m' e1 (a.put o.dst v).tmps ∧ (a.put o.dst v).tmps.size = nt) ?_ ?_
  · refine calls_of_wp ((fnc_eq P f).symm.trans hfn) hb ?_
    refine q1 m _ w hR hf hG ?_ ?_ rfl _ ?_
    · refine harg m a n t hG hE 0 U _ (fun k b hk => by rw [eget_zero] at hk; cases hk) fun j x hj => ?_
      have hjl : j < args.length := (List.getElem?_eq_some_iff.1 hj).1
      rw [Nat.zero_add, Array.getElem?_append_left (by simpa using hjl)]
      simp [hj]
    · simp only [Array.size_append, List.size_toArray, List.length_map, Array.size_replicate]
      rw [len_eq] at hl; omega
    · intro m' a' w' hst hE' hn' hd'
      obtain ⟨v, h2, h3⟩ := hres m' a' w' hst.rel hE'
      obtain ⟨h4, h5⟩ := h3 a (hE.ext hst.ext) hn
      rcases hoo with rfl | rfl
      · exact ⟨hd', v, h2, m', v, rfl, hst, h4, h5⟩
      · exact ⟨hd', v, h2, m', v, rfl, hst, h4, h5⟩
  · rintro e w' ⟨m', v, rfl, hst, h4, h5⟩
    exact hq m' _ w' hst h4 h5 (by rw [put_defers]; exact hd)
theorem fcall_ok (hK : KnownOk P K) (nt : Nat) (dst : Option Tmp) {f : FuncId} {args : List Operand} {op : Op} (hop : ∃ tys, op = .call ⟨.value (.func f), args.toArray, tys⟩) {mm : H → G → G} (hm : Cop1Ok P K nt dst op mm) : ∃ q, fcall P K nt dst f args mm = .mk q ∧ Cop1Ok P K nt dst op q := by
  unfold fcall
  split
  · rename_i fn he hfn
    split
    · rename_i c hb
      rw [cnd_eq]
      split
      · rename_i hl
        rw [Nat.ble_eq] at hl
        obtain ⟨fa, fb, hfa, hfb, harg⟩ := arg_ok (K := K) nt fn.ntmps args 0
        rw [hfa, hfb]
        show ∃ q, (match dst, fn.results.toList with
          | some d, [.tmp r] => cnd (Nat.blt d nt) (unB (gP (dep fn.ntmps) r) fun g => unB (pP (dep nt) d) fun p => .mk (fcall1 c fn.ntmps d r g p fa fb)) (.mk mm)
          | _, _ => .mk (fcallG P K nt c fn dst fa fb)) = Box.mk q ∧ Cop1Ok P K nt dst op q
        split
        · rename_i d r hr
          rw [cnd_eq]
          split
          · rename_i hd
            rw [blt_iff] at hd
            obtain ⟨g, hg, hg'⟩ := gP_ok (dep fn.ntmps) r
            obtain ⟨p, hp, hp'⟩ := pP_ok (dep nt) d
            rw [hg, hp]
            refine ⟨_, rfl, fun ih k n t S o1 e1 S1 hi h => ?_⟩
            obtain ⟨oo, n', t', S', h1, h2⟩ := hi _ _ _ _ _ _ _ _ _ _ h
            have h3 : kret d r g p k n t n' t' S' = .out o1 e1 S1 := by rcases h1 with ⟨_, h1⟩ | ⟨_, h1⟩ <;> exact h1
            have ho : oo = .norm ∨ oo = .ret := by rcases h1 with ⟨h1, _⟩ | ⟨h1, _⟩; exact .inl h1; exact .inr h1
            refine ⟨pset n d (slot n' r), tcap (slot n' r) (t'.get r) t d, S', by rw [← tcap_eq hp', ← hg']; exact h3, fun o ho1 ho2 => ?_⟩
            refine fcall_opR hK he hfn hb hl harg (by rw [ho2]; exact hop) ho h2 fun m a' w' hR' hE' => ?_
            have hrr : (results fn a'.tmps).run P w' = .ok (a'.tmps.getD r undef) w' := by
              have e : results fn a'.tmps = (do let vs ← fn.results.mapM (rvs a'.tmps); pure (if h : vs.size = 1 then vs[0] else .tuple vs)) := rfl
              rw [e, Sem.run_bind, Array.mapM_eq_mapM_toList, Sem.run_map, hr]
              rfl
            refine ⟨_, hrr, fun a hE hn => ?_⟩
            rw [ho1]
            refine env_place hE hn hd (slot_lt _ _) fun y hy => ?_
            obtain ⟨v, h5, h6⟩ := hE' r y hy
            rw [Array.getD_eq_getD_getElem?, h5]; exact h6
          · exact ⟨_, rfl, hm⟩
        · rename_i dst0 _ _ _
          refine ⟨_, rfl, fun ih k n t S o1 e1 S1 hi h => ?_⟩
          obtain ⟨oo, n', t', S', h1, h2⟩ := hi _ _ _ _ _ _ _ _ _ _ h
          have h3 : rk P K fn (fun v S' => aft (aput nt ⟨n, t⟩ dst0 v) k S') n' t' S' = .out o1 e1 S1 := by rcases h1 with ⟨_, h1⟩ | ⟨_, h1⟩ <;> exact h1
          have ho : oo = .norm ∨ oo = .ret := by rcases h1 with ⟨h1, _⟩ | ⟨h1, _⟩; exact .inl h1; exact .inr h1
          unfold rk at h3
          cases hv : ares P K ⟨n', t'⟩ S' fn.results.toList with
          | none => rw [hv] at h3; cases h3
          | some v =>
            rw [hv] at h3
            obtain ⟨n2, t2, h4, h5⟩ := aft_out h3
            refine ⟨n2, t2, S', h5, fun o ho1 ho2 => ?_⟩
            refine fcall_opR hK he hfn hb hl harg (by rw [ho2]; exact hop) ho h2 fun m a' w' hR' hE' => ?_
            obtain ⟨u, h6, h7⟩ := ares_ok (P := P) (fn := fn) hR' hE' hv
            refine ⟨u, h7, fun a hE hn => ?_⟩
            rw [ho1]
            exact upd_ok (aput_upd h4) hE hn h6
      · exact ⟨_, rfl, hm⟩
    · exact ⟨_, rfl, hm⟩
  · exact ⟨_, rfl, hm⟩
end
end Am
end
