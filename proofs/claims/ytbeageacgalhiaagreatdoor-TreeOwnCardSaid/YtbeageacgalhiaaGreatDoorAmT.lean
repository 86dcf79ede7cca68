/- A machine for closed runs: one operation. No program in sight. -/
import Derived.Test.YtbeageacgalhiaaGreatDoorAmS
set_option linter.unusedVariables false
set_option linter.unusedSimpArgs false
namespace Am
open Go
noncomputable section
variable {P : Program}

/-- what is read -/
def ard (P : Program) (lk : Lk) (ρ : Rho) (o : Op) : Option AV :=
  match aload P lk ρ o with
  | some v => some v
  | none => match o with
    | .convert s d x => match ρ x with
      | some a => abts P lk s d a
      | none => none
    | _ => none
theorem ard_ok {m : Map} {lk : Lk} {w : World} (hR : R lk m w) {ρ : Rho} {ev : Operand → Value} (hρ : RhoOk m ρ ev) {o : Oper} {r : AV} (h : ard P lk ρ o.op = some r) :
    ∃ z, cvo m r = some z ∧ (execOp ev o).run P w = .ok (.value z) w := by
  unfold ard at h
  split at h
  · rename_i v hv
    obtain rfl := Option.some.inj h
    exact aload_ok hR hρ hv
  · split at h
    · rename_i s d x ho
      split at h
      · rename_i a ha
        obtain ⟨z, h1, h2⟩ := abts_ok hR h (hρ _ _ ha)
        exact ⟨z, h1, by simp [execOp, ho, h2]⟩
      · cases h
    · cases h

def aclr (P : Program) (g : Nat) (S : St) (ts : List TypeId) (a : AV) : Option St :=
  match ts with
  | [] => none
  | t :: _ => match und P t, a with
    | some (.map _ _), .nmp => some S
    | some (.map _ _), .mp id => match S.h.get id with
      | some (.map _ ck) => bif Nat.ble g id then some ⟨S.h.put (some (.map [] ck)) id, S.nx⟩ else none
      | _ => none
    | _, _ => none
theorem aclr_ok {g : Nat} {m : Map} {S S' : St} {w : World} (hR : R S.lk m w) {ts : List TypeId} {a : AV} {av : Value} (h : aclr P g S ts a = some S') (ha : cvo m a = some av) (ty : TypeId) :
    ∃ w', (Builtin.clear_ ts.toArray ty #[av]).run P w = .ok (.tuple #[]) w' ∧ Step g m S.lk S.nx w m S'.lk S'.nx w' := by
  unfold aclr at h
  split at h
  · cases h
  rename_i t rest
  split at h
  · rename_i ht
    obtain rfl := Option.some.inj h
    simp only [cvo, Option.some.injEq] at ha; subst ha
    exact ⟨w, by simp [Builtin.clear_, run_und ht], Step.refl hR⟩
  · rename_i kt et id ht
    split at h
    · rename_i es ck hlk
      cases hb : Nat.ble g id with
      | false => rw [hb] at h; cases h
      | true =>
      rw [hb, cond_true] at h
      rw [Nat.ble_eq] at hb
      obtain rfl := Option.some.inj h
      obtain ⟨L, es', h1, h2, h3⟩ := hR.holds _ _ hlk
      simp only [cvo, h1, Option.map_some, Option.some.injEq] at ha
      subst ha
      refine ⟨_, ?_, map_put hR hb hlk h1 (es2' := #[]) .nil⟩
      simp [Builtin.clear_, run_und ht, MapKept.run_getObj_map h2, MapKept.run_setObj_map _ h2]
    · cases h
  · cases h
def abwr (P : Program) (g : Nat) (S : St) (b : Builtin) (ts : List TypeId) (as : List AV) : Option (AV × St) :=
  match b, as with
  | .append, [s, x] => aapp P g S ts s x
  | .copy, [d, s] => acpy P g S ts d s
  | .clear, [a] => match aclr P g S ts a with
    | some S' => some (.tp [], S')
    | none => none
  | .unsafeString, [a, l] => auns P g S ts a l
  | _, _ => none
def awr (P : Program) (g : Nat) (S : St) (ρ : Rho) : Op → Option (AV × St)
  | .store t x v => match ρ x, ρ v, szo P t with
    | some (.p id off), some a, some n => bif Nat.beq (len (cel a)) n then (match asto g S id off (cel a) with
      | some S' => some (.tp [], S')
      | none => none) else none
    | _, _, _ => none
  | .mapUpdate t a k v => match ρ a, ρ k, ρ v with
    | some a, some k, some v => match amup P g S t a k v with
      | some S' => some (.tp [], S')
      | none => none
    | _, _, _ => none
  | .insert t a k v => match ρ a, ρ k, ρ v with
    | some a, some k, some v => match amup P g S t a k v with
      | some S' => some (.tp [], S')
      | none => none
    | _, _, _ => none
  | .mapEntry t a k => match ρ a, ρ k with
    | some a, some k => amen P g S t a k
    | _, _ => none
  | .entryStore _ a s v => match ρ a, ρ s, ρ v with
    | some a, some s, some v => match aest g S a s v with
      | some S' => some (.tp [], S')
      | none => none
    | _, _, _ => none
  | .range t x => match ρ x with
    | some a => arng P g S t a
    | none => none
  | .next it s => bif s then (match ρ it with
    | some a => anxt g S a
    | none => none) else none
  | .convert s d x => match ρ x with
    | some a => astb P g S s d a
    | none => none
  | .call c => match c.callee with
    | .builtin b => match amap ρ c.args.toList with
      | some as => abwr P g S b c.argTypes.toList as
      | none => none
    | _ => none
  | _ => none
def Done (P : Program) (g : Nat) (m : Map) (S : St) (w : World) (S' : St) (r : AV) (res : Result Next) : Prop :=
  ∃ m' w' nx v, res = .ok nx w' ∧ (nx = .value v ∨ (nx = .skip ∧ v = undef)) ∧ cvo m' r = some v ∧ Step g m S.lk S.nx w m' S'.lk S'.nx w'
theorem undef_ok (m : Map) : cvo m (.tp []) = some undef := rfl
theorem awr_ok {g : Nat} {m : Map} {S S' : St} {w : World} (hR : R S.lk m w) (hf : Fre m S.nx S'.nx) {ρ : Rho} {ev : Operand → Value} (hρ : RhoOk m ρ ev) {o : Oper} {r : AV} (h : awr P g S ρ o.op = some (r, S')) :
    Done P g m S w S' r ((execOp ev o).run P w) := by
  obtain ⟨dst, op, type, pos, after, guard⟩ := o
  cases op <;> simp only [awr, reduceCtorEq] at h <;> simp only [execOp]
  case store t x v =>
    split at h
    · rename_i id off a n hx hv hn
      cases hb : Nat.beq (len (cel a)) n with
      | false => rw [hb] at h; cases h
      | true =>
      rw [hb, cond_true] at h
      rw [Nat.beq_eq, len_eq] at hb
      split at h
      · rename_i S1 hS1
        obtain ⟨rfl, rfl⟩ := Prod.mk.inj (Option.some.inj h)
        have hp := hρ _ _ hx
        have hc := cel_ok (hρ _ _ hv)
        simp only [cvo, Option.map_eq_some_iff] at hp
        obtain ⟨L, hL, hp⟩ := hp
        obtain ⟨w', q1, q2⟩ := asto_ok (P := P) hR hS1 hc hL
        refine ⟨m, w', .skip, undef, ?_, .inr ⟨rfl, rfl⟩, undef_ok m, q2⟩
        have hsz : (ev v).cells.size = n := by rw [← Array.length_toList, cvs_length hc, hb]
        rw [← hp]
        simp [Instr.storeAt, Instr.sureAddr, storeVar, run_szo hn, hsz, q1]
      · cases h
    · cases h
  case mapUpdate t a k v =>
    split at h
    · rename_i a' k' v' ha hk hv
      split at h
      · rename_i S1 hS1
        obtain ⟨rfl, rfl⟩ := Prod.mk.inj (Option.some.inj h)
        obtain ⟨w', q1, q2⟩ := amup_ok (P := P) hR hS1 (hρ _ _ ha) (hρ _ _ hk) (hρ _ _ hv)
        exact ⟨m, w', .skip, undef, by simp [q1], .inr ⟨rfl, rfl⟩, undef_ok m, q2⟩
      · cases h
    · cases h
  case insert t a k v =>
    split at h
    · rename_i a' k' v' ha hk hv
      split at h
      · rename_i S1 hS1
        obtain ⟨rfl, rfl⟩ := Prod.mk.inj (Option.some.inj h)
        obtain ⟨w', q1, q2⟩ := amup_ok (P := P) hR hS1 (hρ _ _ ha) (hρ _ _ hk) (hρ _ _ hv)
        exact ⟨m, w', .skip, undef, by simp [q1], .inr ⟨rfl, rfl⟩, undef_ok m, q2⟩
      · cases h
    · cases h
  case mapEntry t a k =>
    split at h
    · rename_i a' k' ha hk
      obtain ⟨w', v, q1, q2, q3⟩ := amen_ok (P := P) hR h (hρ _ _ ha) (hρ _ _ hk)
      exact ⟨m, w', .value v, v, by simp [q1], .inl rfl, q2, q3⟩
    · cases h
  case entryStore t a s v =>
    split at h
    · rename_i a' s' v' ha hs hv
      split at h
      · rename_i S1 hS1
        obtain ⟨rfl, rfl⟩ := Prod.mk.inj (Option.some.inj h)
        obtain ⟨w', q1, q2⟩ := aest_ok (P := P) (t := t) hR hS1 (hρ _ _ ha) (hρ _ _ hs) (hρ _ _ hv)
        exact ⟨m, w', .skip, undef, by simp [q1], .inr ⟨rfl, rfl⟩, undef_ok m, q2⟩
      · cases h
    · cases h
  case range t x =>
    split at h
    · rename_i a ha
      obtain ⟨m', w', v, q1, q2, q3⟩ := arng_ok (P := P) hR hf h (hρ _ _ ha)
      exact ⟨m', w', .value v, v, by simp [q1], .inl rfl, q2, q3⟩
    · cases h
  case next it s =>
    cases s with
    | false => cases h
    | true =>
    rw [cond_true] at h
    split at h
    · rename_i a ha
      obtain ⟨w', v, q1, q2, q3⟩ := anxt_ok (P := P) hR h (hρ _ _ ha) type
      exact ⟨m, w', .value v, v, by simp [q1], .inl rfl, q2, q3⟩
    · cases h
  case convert s d x =>
    split at h
    · rename_i a ha
      obtain ⟨m', w', v, q1, q2, q3⟩ := astb_ok (P := P) hR hf h (hρ _ _ ha)
      exact ⟨m', w', .value v, v, by simp [q1], .inl rfl, q2, q3⟩
    · cases h
  case call c =>
    split at h
    · rename_i b hb
      split at h
      · rename_i as has
        have hm := amap_ok hρ has
        have e : c.args.map ev = (c.args.toList.map ev).toArray := by apply Array.ext'; simp
        have ets : c.argTypes.toList.toArray = c.argTypes := by simp
        simp only [resolve, hb, Sem.run_bind, Sem.run_pure, Result.andThen_ok, invoke]
        rw [e]
        generalize c.args.toList.map ev = vs at hm
        generalize (c.args.map fun | .const _ => true | _ => false) = cs
        unfold abwr at h
        split at h
        · rename_i s x
          obtain ⟨sv, vs1, h1, h2, rfl⟩ := cvs_cons.1 hm
          obtain ⟨xv, vs2, h3, h4, rfl⟩ := cvs_cons.1 h2
          simp [cvs] at h4; subst h4
          obtain ⟨m', w', v, q1, q2, q3⟩ := aapp_ok (P := P) hR hf h h1 h3 type
          rw [ets] at q1
          exact ⟨m', w', .value v, v, by simp [builtin, q1], .inl rfl, q2, q3⟩
        · rename_i d s
          obtain ⟨dv, vs1, h1, h2, rfl⟩ := cvs_cons.1 hm
          obtain ⟨sv, vs2, h3, h4, rfl⟩ := cvs_cons.1 h2
          simp [cvs] at h4; subst h4
          obtain ⟨w', v, q1, q2, q3⟩ := acpy_ok (P := P) hR h h1 h3 type
          rw [ets] at q1
          exact ⟨m, w', .value v, v, by simp [builtin, q1], .inl rfl, q2, q3⟩
        · rename_i a
          obtain ⟨av, vs1, h1, h2, rfl⟩ := cvs_cons.1 hm
          simp [cvs] at h2; subst h2
          split at h
          · rename_i S1 hS1
            obtain ⟨rfl, rfl⟩ := Prod.mk.inj (Option.some.inj h)
            obtain ⟨w', q1, q2⟩ := aclr_ok (P := P) hR hS1 h1 type
            rw [ets] at q1
            exact ⟨m, w', .value undef, undef, by simp [builtin, q1]; rfl, .inl rfl, undef_ok m, q2⟩
          · cases h
        · rename_i a l
          obtain ⟨av, vs1, h1, h2, rfl⟩ := cvs_cons.1 hm
          obtain ⟨lv, vs2, h3, h4, rfl⟩ := cvs_cons.1 h2
          simp [cvs] at h4; subst h4
          obtain ⟨w', v, q1, q2, q3⟩ := auns_ok (P := P) hR h h1 h3 type
          rw [ets] at q1
          exact ⟨m, w', .value v, v, by simp [builtin, q1], .inl rfl, q2, q3⟩
        · cases h
      · cases h
    · cases h
end
end Am
