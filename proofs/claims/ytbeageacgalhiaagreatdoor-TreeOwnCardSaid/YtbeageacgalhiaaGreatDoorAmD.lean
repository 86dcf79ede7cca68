/- A machine for closed runs: comparing, parts, slices. No program in sight. -/
import Derived.Test.YtbeageacgalhiaaGreatDoorAmC
import Derived.Laws.StructEq
set_option linter.unusedVariables false
set_option linter.unusedSimpArgs false
namespace Am
open Go
noncomputable section

def aeq0 (P : Program) (t : TypeId) (a b : AV) : Option Bool :=
  match und P t, a, b with
  | some .bool, .b x, .b y => some (x == y)
  | some (.int _), .i k x, .i k' y => bif keq k k' then some (ieq x y) else none
  | some .string, .s n x, .s k y => some (Nat.beq n k && Nat.beq x y)
  | some (.pointer _), .np, .np => some true
  | some (.pointer _), .np, .p _ _ => some false
  | some (.pointer _), .p _ _, .np => some false
  | some (.pointer e), .p i o, .p j q => match szo P e with
    | some n => bif Nat.beq i j && !(Nat.beq n 0) then some (Nat.beq o q) else none
    | none => none
  | some (.slice _), .nsl, .nsl => some true
  | some (.slice _), .nsl, .sl .. => some false
  | some (.slice _), .sl .., .nsl => some false
  | some (.map _ _), .nmp, .nmp => some true
  | some (.map _ _), .nmp, .mp _ => some false
  | some (.map _ _), .mp _, .nmp => some false
  | some (.func _ _ _), .nfn, .nfn => some true
  | some (.func _ _ _), .nfn, .fn .. => some false
  | some (.func _ _ _), .fn .., .nfn => some false
  | some (.interface _), .nifc, .nifc => some true
  | some (.interface _), .nifc, .ifc _ _ => some false
  | some (.interface _), .ifc _ _, .nifc => some false
  | _, _, _ => none
theorem aeq0_ok {P : Program} {t : TypeId} {a b : AV} {r : Bool} {m : Map} {u v : Value} (h : aeq0 P t a b = some r) (ha : cvo m a = some u) (hb : cvo m b = some v) (d : Nat) (w : World) :
    (Op.equalIn (d + 1) t u v).run P w = .ok r w := by
  unfold aeq0 at h
  split at h
  all_goals try simp only [cvo, Option.map_eq_some_iff, Option.bind_eq_some_iff, Option.some.injEq, Option.ite_none_right_eq_some] at ha hb
  case h_1 ht => subst ha hb; obtain rfl := Option.some.inj h; simp [Op.equalIn, run_und ht]
  case h_2 ht =>
    subst ha hb
    rename_i k x k' y
    cases hk : keq k k' with
    | false => rw [hk] at h; cases h
    | true =>
      rw [hk] at h; have h := (Option.some.inj h).symm; subst h
      have := keq_eq hk; subst this
      simp [Op.equalIn, run_und ht, ieq_eq]
  case h_3 ht =>
    obtain ⟨hx, rfl⟩ := ha
    obtain ⟨hy, rfl⟩ := hb
    have h := (Option.some.inj h).symm; subst h
    rw [run_equalIn_string w d t _ _ (und_ok ht), ba_toList, ba_toList, unp_eq_iff hx hy]
  case h_4 ht => subst ha hb; obtain rfl := Option.some.inj h; simp [Op.equalIn, run_und ht]
  case h_5 ht => obtain ⟨L, _, rfl⟩ := hb; subst ha; obtain rfl := Option.some.inj h; simp [Op.equalIn, run_und ht]
  case h_6 ht => obtain ⟨L, _, rfl⟩ := ha; subst hb; obtain rfl := Option.some.inj h; simp [Op.equalIn, run_und ht]
  case h_7 ht =>
    obtain ⟨L, h1, rfl⟩ := ha
    obtain ⟨K, h2, rfl⟩ := hb
    split at h
    · rename_i n hn
      rename_i i o j q _
      cases hc : (Nat.beq i j && !(Nat.beq n 0)) with
      | false => rw [hc] at h; cases h
      | true =>
        rw [hc] at h; have h := (Option.some.inj h).symm; subst h
        rw [Bool.and_eq_true, Nat.beq_eq, Bool.not_eq_true', ← Bool.not_eq_true, Nat.beq_eq] at hc
        obtain ⟨rfl, hn0⟩ := hc
        obtain rfl := Option.some.inj (h1.symm.trans h2)
        simp only [Op.equalIn, Sem.run_bind, run_und ht, Result.andThen_ok, run_szo hn, ne_eq, hn0, not_false_eq_true, if_true, sameAddr, beq_self_eq_true, Sem.run_pure]
        congr 1
        rw [Bool.eq_iff_iff, beq_iff_eq, Nat.beq_eq, Addr.mk.injEq]
        simp
    · cases h
  case h_8 ht => subst ha hb; obtain rfl := Option.some.inj h; simp [Op.equalIn, run_und ht]
  case h_9 ht => obtain ⟨L, _, _, rfl⟩ := hb; subst ha; obtain rfl := Option.some.inj h; simp [Op.equalIn, run_und ht]
  case h_10 ht => obtain ⟨L, _, _, rfl⟩ := ha; subst hb; obtain rfl := Option.some.inj h; simp [Op.equalIn, run_und ht]
  case h_11 ht => subst ha hb; obtain rfl := Option.some.inj h; simp [Op.equalIn, run_und ht]
  case h_12 ht => obtain ⟨L, _, rfl⟩ := hb; subst ha; obtain rfl := Option.some.inj h; simp [Op.equalIn, run_und ht]
  case h_13 ht => obtain ⟨L, _, rfl⟩ := ha; subst hb; obtain rfl := Option.some.inj h; simp [Op.equalIn, run_und ht]
  case h_14 ht => subst ha hb; obtain rfl := Option.some.inj h; simp [Op.equalIn, run_und ht]
  case h_15 ht => obtain ⟨L, _, _, _, rfl⟩ := hb; subst ha; obtain rfl := Option.some.inj h; simp [Op.equalIn, run_und ht]
  case h_16 ht => obtain ⟨L, _, _, _, rfl⟩ := ha; subst hb; obtain rfl := Option.some.inj h; simp [Op.equalIn, run_und ht]
  case h_17 ht => subst ha hb; obtain rfl := Option.some.inj h; simp [Op.equalIn, run_und ht]
  case h_18 ht => obtain ⟨L, _, rfl⟩ := hb; subst ha; obtain rfl := Option.some.inj h; simp [Op.equalIn, run_und ht]
  case h_19 ht => obtain ⟨L, _, rfl⟩ := ha; subst hb; obtain rfl := Option.some.inj h; simp [Op.equalIn, run_und ht]
  case h_20 => cases h
def aeqF (P : Program) (l k : List AV) : List Field → Option Bool
  | [] => some true
  | f :: fs => bif f.name == "_" then none else
    match prt P f.type l f.offset, prt P f.type k f.offset with
    | some a, some b => match aeq0 P f.type a b with
      | some true => aeqF P l k fs
      | some false => some false
      | none => none
    | _, _ => none
theorem aeqF_ok {P : Program} {l k : List AV} {m : Map} {us vs : List Value} (hl : cvs m l = some us) (hk : cvs m k = some vs) (d : Nat) (w : World) :
    ∀ {fs : List Field} {r : Bool}, aeqF P l k fs = some r → (Op.eqFields (d + 1) us.toArray vs.toArray fs).run P w = .ok r w
  | [], r, h => by simp [aeqF] at h; subst h; rfl
  | f :: fs, r, h => by
    simp only [aeqF] at h
    cases hn : f.name == "_" with
    | true => rw [hn] at h; cases h
    | false =>
      rw [hn, cond_false] at h
      have hne : f.name ≠ "_" := by simpa using hn
      split at h
      · rename_i a b ha hb
        obtain ⟨u, hu, hru⟩ := prt_ok ha hl
        obtain ⟨v, hv, hrv⟩ := prt_ok hb hk
        rw [Op.eqFields, if_pos hne]
        cases he : aeq0 P f.type a b with
        | none => rw [he] at h; cases h
        | some q =>
          rw [he] at h
          have := aeq0_ok he hu hv d w
          simp only [Sem.run_bind, hru, hrv, Result.andThen_ok, this]
          cases q with
          | false => simp at h; subst h; simp
          | true => simp only [Bool.not_true, Bool.false_eq_true, if_false]; exact aeqF_ok hl hk d w h
      · cases h
def isK : Operand → Bool
  | .const _ => true
  | _ => false
def aeq (P : Program) (t : TypeId) (xo yo : Operand) (a b : AV) : Option Bool :=
  match a, b with
  | .ag l, .ag k => match und P t with
    | some (.struct fs) => bif P.stoodInHeld t || P.eqGuardType P.depth t then none else aeqF P l k fs.toList
    | _ => none
  | .nifc, .nifc => bif isK xo || isK yo then aeq0 P t .nifc .nifc else none
  | a, b => aeq0 P t a b
def abin (P : Program) (op : BinOp) (t : TypeId) (xo yo : Operand) (a b : AV) : Option AV :=
  match a, b with
  | .i k x, .i k' y => match op with
    | .shl => ishf .shl k x y
    | .shr => ishf .shr k x y
    | op => bif keq k k' then ikin op k x y else none
  | .s n x, .s k y => strin op n x k y
  | a, b => match op with
    | .eql => match aeq P t xo yo a b with
      | some r => some (.b r)
      | none => none
    | .neq => match aeq P t xo yo a b with
      | some r => some (.b (!r))
      | none => none
    | _ => none

def notAg : AV → Bool
  | .ag _ => false
  | _ => true
theorem guard_ok {P : Program} {op : BinOp} {t : TypeId} {xo yo : Operand} {u v : Value} (w : World)
    (h1 : ¬ (u = .nilIface ∧ v = .nilIface)) (h2 : ∀ x y, ¬ (u = .agg x ∧ v = .agg y)) : (eqGuard op t xo yo u v).run P w = .ok () w := by
  have key : ∀ (A : Sem Unit) (B : Array Value → Array Value → Sem Unit), (match u, v with | .nilIface, .nilIface => A | .agg x, .agg y => B x y | _, _ => pure ()) = pure () := by
    intro A B
    split
    · exact absurd ⟨rfl, rfl⟩ h1
    · exact absurd ⟨rfl, rfl⟩ (h2 _ _)
    · rfl
  unfold eqGuard
  split
  · rw [if_neg (by simp)]; exact congrArg (fun x => Sem.run P x w) (key _ _)
  · rw [if_neg (by simp)]; exact congrArg (fun x => Sem.run P x w) (key _ _)
  · rw [if_pos (by simp)]; rfl
end
end Am
