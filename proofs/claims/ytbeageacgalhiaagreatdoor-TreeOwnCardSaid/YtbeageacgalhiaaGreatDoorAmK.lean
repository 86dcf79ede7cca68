/- A machine for closed runs: the operations that read memory. No program in sight. -/
import Derived.Test.YtbeageacgalhiaaGreatDoorAmJ
set_option linter.unusedVariables false
set_option linter.unusedSimpArgs false
namespace Am
open Go
noncomputable section
variable {P : Program}

/-- a cut of an array behind its address -/
def asla (P : Program) (lk : Lk) (ρ : Rho) (t : TypeId) (a : AV) (lo hi mx : Option Operand) : Option AV :=
  match und P t, a with
  | some (.array n e), .p id off => match lk id, szo P e, obd ρ lo, obd ρ hi, mx with
    | some (.cells _ cs _ _), some s, some l, some h, none =>
      bif (Nat.ble (off + n * s) (len cs) && !(Nat.beq s 0)) && (Nat.ble (h.getD n) n && Nat.ble (l.getD 0) (h.getD n)) then
        some (.sl id (off + l.getD 0 * s) (h.getD n - l.getD 0) (some (n - l.getD 0)) s (l.getD 0 * s)) else none
    | _, _, _, _, _ => none
  | _, _ => none
theorem asla_ok {m : Map} {lk : Lk} {w : World} (hR : R lk m w) {ρ : Rho} {ev : Operand → Value} (hρ : RhoOk m ρ ev) {t : TypeId} {a r : AV} {lo hi mx : Option Operand} {v : Value} (h : asla P lk ρ t a lo hi mx = some r) (ha : cvo m a = some v) :
    ∃ z, cvo m r = some z ∧ (Instr.sliceAt t v (lo.map ev) (hi.map ev) (mx.map ev)).run P w = .ok z w := by
  unfold asla at h
  split at h
  · rename_i n e id off ht
    split at h
    · rename_i t' cs fz ex s l h' hlk hs hl hh
      cases hb : ((Nat.ble (off + n * s) (len cs) && !(Nat.beq s 0)) && (Nat.ble (h'.getD n) n && Nat.ble (l.getD 0) (h'.getD n))) with
      | false => rw [hb] at h; cases h
      | true =>
        rw [hb, cond_true] at h
        rw [Bool.and_eq_true, Bool.and_eq_true, Bool.and_eq_true, Nat.ble_eq, Nat.ble_eq, Nat.ble_eq, Bool.not_eq_true', ← Bool.not_eq_true, Nat.beq_eq, len_eq] at hb
        obtain ⟨⟨b1, b2⟩, b3, b4⟩ := hb
        obtain rfl := Option.some.inj h
        obtain ⟨L, c, fr, vs, h1, h2, h3, h4, h5, h6, _⟩ := hR.holds _ _ hlk
        simp only [cvo, h1, Option.map_some, Option.some.injEq] at ha
        subst ha
        have hln : l.getD 0 ≤ n := by omega
        have hmul : (n - l.getD 0) * s + l.getD 0 * s = n * s := by rw [← Nat.add_mul]; congr 1; omega
        refine ⟨.slice (some (if n = l.getD 0 then ⟨L.b, L.s + off, none⟩ else (⟨L.b, L.s + off, none⟩ : Addr).add (l.getD 0 * s))) (h'.getD n - l.getD 0) (n - l.getD 0), ?_, ?_⟩
        · simp only [cvo, h1, Option.bind_some, Option.getD_some]
          rw [if_pos ⟨by omega, by omega, by omega⟩]
          congr 3
          by_cases e0 : n = l.getD 0
          · rw [if_pos e0, if_pos (by omega)]; congr 2; omega
          · rw [if_neg e0, if_neg (by omega), addr_add]; congr 2; omega
        · have hr := sliceBounds_ok (P := P) false n n (obd_ok hρ hl) (obd_ok hρ hh) w b3 b4
          simp [Instr.sliceAt, run_und ht, Instr.sureAddr, hr, run_szo hs]
    · cases h
  · cases h
/-- unsafe.Pointer of a pointer, and back -/
def aupt (P : Program) (lk : Lk) (s d : TypeId) (a : AV) : Option AV :=
  match und P s, und P d, a with
  | some (.pointer _), some .unsafePointer, .np => some .np
  | some .unsafePointer, some (.pointer _), .np => some .np
  | some (.pointer t), some .unsafePointer, .p id off => match lk id, szo P t with
    | some (.cells _ cs _ _), some n => bif Nat.blt off (len cs) && !(Nat.beq n 0) then some (.p id off) else none
    | _, _ => none
  | some .unsafePointer, some (.pointer u), .p id off => match lk id, szo P u with
    | some (.cells t cs _ ex), some n => bif (ex && !(Nat.beq n 0)) && liesAt P P.depth t (len cs / P.cellsOf t) off u 1 then some (.p id off) else none
    | _, _ => none
  | _, _, _ => none
theorem aupt_ok {m : Map} {lk : Lk} {w : World} (hR : R lk m w) {s d : TypeId} {a r : AV} {v : Value} (h : aupt P lk s d a = some r) (ha : cvo m a = some v) :
    cvo m r = some v ∧ (convert s d v).run P w = .ok v w := by
  have hc1 : ∀ {t x}, und P s = some (.pointer t) → und P d = some .unsafePointer → v = .pointer x → (convert s d v).run P w = (Conv.unsafePointer s d v).run P w := by
    intro t x hs hd hv
    subst hv
    simp only [convert, Sem.run_bind, run_und hs, run_und hd, Result.andThen_ok]
  have hc2 : ∀ {t x}, und P s = some .unsafePointer → und P d = some (.pointer t) → v = .pointer x → (convert s d v).run P w = (Conv.unsafePointer s d v).run P w := by
    intro t x hs hd hv
    subst hv
    simp only [convert, Sem.run_bind, run_und hs, run_und hd, Result.andThen_ok]
  unfold aupt at h
  split at h
  · rename_i t hs hd
    obtain rfl := Option.some.inj h
    refine ⟨ha, ?_⟩
    simp only [cvo, Option.some.injEq] at ha; subst ha
    rw [hc1 hs hd rfl]
    simp [Conv.unsafePointer, run_und hs, run_und hd]
  · rename_i t hs hd
    obtain rfl := Option.some.inj h
    refine ⟨ha, ?_⟩
    simp only [cvo, Option.some.injEq] at ha; subst ha
    rw [hc2 hs hd rfl]
    simp [Conv.unsafePointer, run_und hs, run_und hd]
  · rename_i t id off hs hd
    split at h
    · rename_i t' cs fz ex n hlk hn
      cases hb : (Nat.blt off (len cs) && !(Nat.beq n 0)) with
      | false => rw [hb] at h; cases h
      | true =>
        rw [hb, cond_true] at h
        rw [Bool.and_eq_true, blt_iff, Bool.not_eq_true', ← Bool.not_eq_true, Nat.beq_eq, len_eq] at hb
        obtain rfl := Option.some.inj h
        refine ⟨ha, ?_⟩
        obtain ⟨L, c, fr, vs, h1, h2, h3, h4, h5, h6, _⟩ := hR.holds _ _ hlk
        simp only [cvo, h1, Option.map_some, Option.some.injEq] at ha
        subst ha
        rw [hc1 hs hd rfl]
        have hsh : w.shape? L.b = some (t', c.size) := by simp [World.shape?, h2]
        have hno : ¬ (L.s + off ≥ c.size) := by omega
        simp [Conv.unsafePointer, run_und hs, run_und hd, Conv.seenAt, viewAt, hsh, cellsIn, run_szo hn, hb.2, hno]
    · cases h
  · rename_i u id off hs hd
    split at h
    · rename_i t' cs fz ex n hlk hn
      cases hb : ((ex && !(Nat.beq n 0)) && liesAt P P.depth t' (len cs / P.cellsOf t') off u 1) with
      | false => rw [hb] at h; cases h
      | true =>
        rw [hb, cond_true] at h
        rw [Bool.and_eq_true, Bool.and_eq_true, Bool.not_eq_true', ← Bool.not_eq_true, Nat.beq_eq, len_eq] at hb
        obtain ⟨⟨b1, b2⟩, b3⟩ := hb
        obtain rfl := Option.some.inj h
        refine ⟨ha, ?_⟩
        obtain ⟨L, c, fr, vs, h1, h2, h3, h4, h5, h6, h7, h8⟩ := hR.holds _ _ hlk
        obtain ⟨e1, e2⟩ := h8 b1
        simp only [cvo, h1, Option.map_some, Option.some.injEq] at ha
        subst ha
        rw [hc2 hs hd rfl]
        have hsh : w.shape? L.b = some (t', c.size) := by simp [World.shape?, h2]
        rw [← e2] at b3
        simp [Conv.unsafePointer, run_und hs, run_und hd, Conv.seenAt, viewAt, hsh, run_szo hn, b2, variablesAt, e1, b3]
    · cases h
  · cases h
def aload (P : Program) (lk : Lk) (ρ : Rho) : Op → Option AV
  | .load t x => match ρ x with
    | some (.p id off) => match lk id with
      | some (.cells _ cs _ _) => ald P t cs off
      | _ => none
    | _ => none
  | .lookup t x k ok => match ρ x, ρ k with
    | some a, some k => alook P t lk a k ok
    | _, _ => none
  | .slice t x lo hi mx => match ρ x with
    | some a => asla P lk ρ t a lo hi mx
    | none => none
  | .convert s d x => match ρ x with
    | some a => aupt P lk s d a
    | none => none
  | .call c => match c.callee with
    | .builtin .len => match c.argTypes.toList, amap ρ c.args.toList with
      | t :: _, some (.mp id :: _) => match und P t, lk id with
        | some (.map _ _), some (.map es _) => some (.i .i64 (.ofNat (len es)))
        | _, _ => none
      | t :: _, some (.nmp :: _) => match und P t with
        | some (.map _ _) => some (.i .i64 (.ofNat 0))
        | _ => none
      | _, _ => none
    | _ => none
  | _ => none
theorem f2_length {α β : Type} {r : α → β → Prop} : ∀ {l : List α} {k : List β}, F2 r l k → l.length = k.length
  | _, _, .nil => rfl
  | _, _, .cons _ h => by simp [f2_length h]
theorem aload_ok {m : Map} {lk : Lk} {w : World} (hR : R lk m w) {ρ : Rho} {ev : Operand → Value} (hρ : RhoOk m ρ ev) {o : Oper} {r : AV} (h : aload P lk ρ o.op = some r) :
    ∃ z, cvo m r = some z ∧ (execOp ev o).run P w = .ok (.value z) w := by
  obtain ⟨dst, op, type, pos, after, guard⟩ := o
  cases op <;> simp only [aload, reduceCtorEq] at h <;> simp only [execOp]
  case load t x =>
    split at h
    · rename_i id off hx
      split at h
      · rename_i t' cs fz ex hlk
        obtain ⟨v, h1, h2⟩ := ald_ok hR hlk h (hρ _ _ hx)
        exact ⟨v, h1, by simp [h2]⟩
      · cases h
    · cases h
  case lookup t x k ok =>
    split at h
    · rename_i a k' ha hk
      obtain ⟨v, h1, h2⟩ := alook_ok hR h (hρ _ _ ha) (hρ _ _ hk)
      exact ⟨v, h1, by simp [h2]⟩
    · cases h
  case slice t x lo hi mx =>
    split at h
    · rename_i a ha
      obtain ⟨v, h1, h2⟩ := asla_ok hR hρ h (hρ _ _ ha)
      exact ⟨v, h1, by simp [h2]⟩
    · cases h
  case convert s d x =>
    split at h
    · rename_i a ha
      obtain ⟨h1, h2⟩ := aupt_ok hR h (hρ _ _ ha)
      exact ⟨_, h1, by simp [h2]⟩
    · cases h
  case call c =>
    obtain ⟨callee, args, argTypes⟩ := c
    obtain ⟨args⟩ := args
    obtain ⟨argTypes⟩ := argTypes
    simp only at h
    split at h
    · simp only [resolve, Sem.run_bind, Sem.run_pure, Result.andThen_ok, invoke, builtin, List.map_toArray]
      split at h
      · rename_i t ts id as has
        split at h
        · rename_i kt et es ck ht hlk
          obtain rfl := Option.some.inj h
          have hm := amap_ok hρ has
          obtain ⟨v, vs, f1, f2, f3⟩ := cvs_cons.1 hm
          obtain ⟨L, es', h1, h2, h3⟩ := hR.holds _ _ hlk
          simp only [cvo, h1, Option.map_some, Option.some.injEq] at f1
          subst f1
          refine ⟨_, rfl, ?_⟩
          rw [f3]
          have := f2_length h3
          simp [Builtin.len_, run_und ht, MapKept.run_getObj_map h2, goInt, len_eq, this]
        · cases h
      · rename_i t ts as has
        split at h
        · rename_i kt et ht
          obtain rfl := Option.some.inj h
          have hm := amap_ok hρ has
          obtain ⟨v, vs, f1, f2, f3⟩ := cvs_cons.1 hm
          simp only [cvo, Option.some.injEq] at f1
          subst f1
          refine ⟨_, rfl, ?_⟩
          rw [f3]
          simp [Builtin.len_, run_und ht, goInt]
        · cases h
      · cases h
    · cases h
end
end Am
