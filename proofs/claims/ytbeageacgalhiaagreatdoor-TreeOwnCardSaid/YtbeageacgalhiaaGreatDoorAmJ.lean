/- A machine for closed runs: reading memory. No program in sight. -/
import Derived.Test.YtbeageacgalhiaaGreatDoorAmI
import Derived.MapKept
set_option linter.unusedVariables false
set_option linter.unusedSimpArgs false
namespace Am
open Go
noncomputable section
variable {P : Program}

def ald (P : Program) (t : TypeId) (cs : List AV) (off : Nat) : Option AV :=
  match und P t, szo P t with
  | some d, some n => bif isA d then (bif Nat.beq (len (tke n (drp off cs))) n then some (.ag (tke n (drp off cs))) else none) else nth cs off
  | _, _ => none
theorem cell_at {w : World} {b o : Nat} {c : Array Value} {t : TypeId} {fr : Nat × Nat} {v : Value} (h : w.heap[b]? = some (.cells c t fr)) (hv : c[o]? = some v) : w.cell? ⟨b, o, none⟩ = some v := by
  simp [World.cell?, h, hv]
theorem ald_ok {m : Map} {lk : Lk} {w : World} (hR : R lk m w) {id off fz : Nat} {ex : Bool} {t t' : TypeId} {cs : List AV} {a : AV} {u : Value} (hlk : lk id = some (.cells t' cs fz ex)) (h : ald P t cs off = some a) (hu : cvo m (.p id off) = some u) :
    ∃ v, cvo m a = some v ∧ (Instr.loadAt t u).run P w = .ok v w := by
  obtain ⟨L, c, fr, vs, h1, h2, h3, h4, h5, h6, _⟩ := hR.holds _ _ hlk
  simp only [cvo, h1, Option.map_some, Option.some.injEq] at hu
  subst hu
  unfold ald at h
  split at h
  · rename_i d n hd hn
    cases hA : isA d with
    | true =>
      rw [hA, cond_true] at h
      cases hb : Nat.beq (len (tke n (drp off cs))) n with
      | false => rw [hb] at h; cases h
      | true =>
        rw [hb, cond_true] at h
        obtain rfl := Option.some.inj h
        rw [Nat.beq_eq, len_eq, tke_eq, drp_eq] at hb
        have hvs := cvs_take n (cvs_drop off h5)
        have hlen := cvs_length hvs
        refine ⟨.agg ((vs.drop off).take n).toArray, by simp [cvo, tke_eq, drp_eq, hvs], ?_⟩
        have hcell : ∀ j v, ((vs.drop off).take n)[j]? = some v → w.cell? ((⟨L.b, L.s + off, none⟩ : Addr).add j) = some v := by
          intro j v hj
          rw [addr_add]
          rw [List.getElem?_take] at hj
          split at hj
          · rw [List.getElem?_drop] at hj
            have := h6 _ _ hj
            rw [← Nat.add_assoc] at this
            exact cell_at h2 this
          · cases hj
        have hl := run_loadCells_list (P := P) (w := w) ⟨L.b, L.s + off, none⟩ _ hcell
        rw [hlen, hb] at hl
        unfold Instr.loadAt Instr.sureAddr loadVar
        simp only [Sem.run_bind, Sem.run_pure, Result.andThen_ok, run_isA hd, hA, if_true, run_szo hn, hl]
    | false =>
      rw [hA, cond_false, nth_eq] at h
      obtain ⟨v, f1, f2⟩ := cvs_get h5 h
      refine ⟨v, f2, ?_⟩
      have := h6 _ _ f1
      unfold Instr.loadAt Instr.sureAddr loadVar
      simp only [Sem.run_bind, Sem.run_pure, Result.andThen_ok, run_isA hd, hA, Bool.false_eq_true, if_false, run_load, cell_at h2 this]
  · cases h

/-! maps -/
def asame : TypeDesc → AV → AV → Option Bool
  | .int _, .i k a, .i k' b => bif keq k k' then some (ieq a b) else none
  | .string, .s n x, .s k y => some (Nat.beq n k && Nat.beq x y)
  | .bool, .b x, .b y => some (x == y)
  | _, _, _ => none
theorem asame_ok {m : Map} {d : TypeDesc} {a b : AV} {u v : Value} {r : Bool} (h : asame d a b = some r) (ha : cvo m a = some u) (hb : cvo m b = some v) : Instr.sameNow d u v = some r := by
  unfold asame at h
  split at h
  all_goals try simp only [cvo, Option.ite_none_right_eq_some, Option.some.injEq] at ha hb
  · rename_i k a k' b
    subst ha hb
    cases hk : keq k k' with
    | false => rw [hk] at h; cases h
    | true =>
      rw [hk, cond_true] at h
      have := keq_eq hk; subst this
      obtain rfl := Option.some.inj h
      simp [Instr.sameNow, ieq_eq]
  · obtain ⟨hx, rfl⟩ := ha
    obtain ⟨hy, rfl⟩ := hb
    obtain rfl := Option.some.inj h
    simp only [Instr.sameNow]
    rw [beq_toListBytes, ba_toList, ba_toList, unp_eq_iff hx hy]
  · subst ha hb
    obtain rfl := Option.some.inj h
    rfl
  · cases h
def kOk : TypeDesc → Bool
  | .int _ | .string | .bool => true
  | _ => false
theorem asame_kOk {d : TypeDesc} {a b : AV} {r : Bool} (h : asame d a b = some r) : kOk d = true := by
  unfold asame at h
  split at h <;> first | rfl | cases h
def ackF (P : Program) (l : List AV) : List Field → Bool
  | [] => true
  | f :: fs => (match und P f.type, prt P f.type l f.offset with
    | some d, some _ => kOk d
    | _, _ => false) && ackF P l fs
def ack (P : Program) (d : TypeDesc) (k : AV) : Bool :=
  match d, k with
  | .struct fs, .ag l => ackF P l fs.toList
  | .struct _, _ => false
  | d, _ => kOk d
theorem checkKey_plain {t : TypeId} {d : TypeDesc} (hd : und P t = some d) (hk : kOk d = true) (b : Bool) (n : Nat) (v : Value) (w : World) : (Instr.checkKey b (n + 1) t v).run P w = .ok () w := by
  unfold Instr.checkKey
  simp only [Sem.run_bind, run_und hd, Result.andThen_ok]
  cases d <;> simp [kOk] at hk <;> rfl
theorem checkKey_fields {m : Map} {l : List AV} {vs : List Value} (hl : cvs m l = some vs) (b : Bool) (n : Nat) : ∀ (fs : List Field) (w : World), ackF P l fs = true →
    (forIn fs PUnit.unit (fun f (_ : PUnit) => (if f.name ≠ "_" then do
        let y ← part f.type vs.toArray f.offset
        Instr.checkKey b (n + 1) f.type y
        pure (ForInStep.yield PUnit.unit) else pure (ForInStep.yield PUnit.unit) : Sem (ForInStep PUnit)))).run P w = .ok PUnit.unit w
  | [], w, h => rfl
  | f :: fs, w, h => by
    simp only [ackF, Bool.and_eq_true] at h
    obtain ⟨h1, h2⟩ := h
    rw [List.forIn_cons]
    split at h1
    · rename_i d a hd ha
      obtain ⟨v, _, hv⟩ := prt_ok ha hl
      have ih := checkKey_fields hl b n fs w h2
      by_cases hn : f.name ≠ "_"
      · rw [if_pos hn]
        simp only [Sem.run_bind, hv, Result.andThen_ok, checkKey_plain hd h1, Sem.run_pure]
        exact ih
      · rw [if_neg hn]
        simp only [Sem.run_bind, Sem.run_pure, Result.andThen_ok]
        exact ih
    · cases h1
theorem checkKey_ok {m : Map} {t : TypeId} {d : TypeDesc} (hd : und P t = some d) {k : AV} {kv : Value} (h : ack P d k = true) (hk : cvo m k = some kv) (b : Bool) (w : World) : (Instr.checkKey b 10000 t kv).run P w = .ok () w := by
  unfold ack at h
  split at h
  · rename_i fs l
    simp only [cvo, Option.map_eq_some_iff] at hk
    obtain ⟨vs, hl, rfl⟩ := hk
    unfold Instr.checkKey
    simp only [Sem.run_bind, run_und hd, Result.andThen_ok]
    rw [← Array.forIn_toList]
    have := checkKey_fields (P := P) hl b 9998 fs.toList w h
    simp only [bind_pure_comp, map_pure] at this ⊢
    rw [this]; rfl
  · cases h
  · exact checkKey_plain hd h b 9999 kv w
def acmp (P : Program) (kt : TypeId) (d : TypeDesc) (a b : AV) : Option Bool :=
  match d with
  | .struct fs => match a, b with
    | .ag l, .ag k => bif P.stoodInHeld kt then none else aeqF P l k fs.toList
    | _, _ => none
  | d => asame d a b
def afnd (P : Program) (kt : TypeId) (d : TypeDesc) (k : AV) : List (AV × AV × Nat) → Nat → Option (Option (Nat × AV))
  | [], _ => some none
  | e :: es, i => match acmp P kt d k e.1 with
    | some true => some (some (i, e.2.1))
    | some false => afnd P kt d k es (Nat.succ i)
    | none => none
def isS : TypeDesc → Bool
  | .struct _ => true
  | _ => false
theorem acmp_plain {kt : TypeId} {d : TypeDesc} (hd : isS d = false) (a b : AV) : acmp P kt d a b = asame d a b := by
  cases d <;> first | rfl | cases hd
theorem fndNow {m : Map} {kt : TypeId} {d : TypeDesc} (hd : isS d = false) {k : AV} {kv : Value} (hk : cvo m k = some kv) : ∀ {es : List (AV × AV × Nat)} {es' : List MapEntry} {i : Nat} {r : Option (Nat × AV)}, F2 (EntOk m) es es' → afnd P kt d k es i = some r →
    ∃ r', Instr.findNow d kv es' i = some r' ∧ ((r = none ∧ r' = none) ∨ ∃ j a v, r = some (j, a) ∧ r' = some (j, v) ∧ cvo m a = some v ∧ i ≤ j ∧ ∃ e, es[j - i]? = some e ∧ e.2.1 = a)
  | _, _, i, r, .nil, h => by
    simp [afnd] at h; subst h; exact ⟨none, rfl, .inl ⟨rfl, rfl⟩⟩
  | e :: es, e' :: es', i, r, .cons h1 h2, h => by
    simp only [afnd, acmp_plain hd] at h
    split at h
    · rename_i hs
      obtain rfl := Option.some.inj h
      have := asame_ok hs hk h1.1
      exact ⟨some (i, e'.val), by simp [Instr.findNow, this], .inr ⟨i, e.2.1, e'.val, rfl, rfl, h1.2.1, Nat.le_refl _, e, by simp, rfl⟩⟩
    · rename_i hs
      have := asame_ok hs hk h1.1
      obtain ⟨r', f1, f2⟩ := fndNow hd hk h2 h
      refine ⟨r', by simp [Instr.findNow, this, f1], ?_⟩
      rcases f2 with h3 | ⟨j, a, v, h3, h4, h5, h6, e0, h7, h8⟩
      · exact .inl h3
      · refine .inr ⟨j, a, v, h3, h4, h5, by omega, e0, ?_, h8⟩
        rw [show j - i = (j - (i + 1)) + 1 by omega, List.getElem?_cons_succ]; exact h7
    · cases h
theorem fndAsk {m : Map} {kt : TypeId} {fs : Array Field} (hu : und P kt = some (.struct fs)) {k : AV} {kv : Value} (hk : cvo m k = some kv) (w : World) : ∀ {es : List (AV × AV × Nat)} {es' : List MapEntry} {i : Nat} {r : Option (Nat × AV)}, F2 (EntOk m) es es' → afnd P kt (.struct fs) k es i = some r →
    ∃ r', (Instr.findAsking kt kv es' i).run P w = .ok r' w ∧ ((r = none ∧ r' = none) ∨ ∃ j a v, r = some (j, a) ∧ r' = some (j, v) ∧ cvo m a = some v ∧ i ≤ j ∧ ∃ e, es[j - i]? = some e ∧ e.2.1 = a)
  | _, _, i, r, .nil, h => by
    simp [afnd] at h; subst h; exact ⟨none, rfl, .inl ⟨rfl, rfl⟩⟩
  | e :: es, e' :: es', i, r, .cons h1 h2, h => by
    have heq : ∀ b, acmp P kt (.struct fs) k e.1 = some b → (Op.equal kt kv e'.key).run P w = .ok b w := by
      intro b hb
      unfold acmp at hb
      simp only at hb
      split at hb
      · rename_i l k' hke
        cases hst : P.stoodInHeld kt with
        | true => rw [hst] at hb; cases hb
        | false =>
          rw [hst, cond_false] at hb
          have h11 := h1.1
          rw [hke] at h11
          simp only [cvo, Option.map_eq_some_iff] at hk h11
          obtain ⟨us, g1, rfl⟩ := hk
          obtain ⟨vs, g2, g3⟩ := h11
          rw [← g3]
          have hf : P.fieldsOf kt = fs := by simp [Program.fieldsOf, und_ok hu]
          have he := run_equalIn_struct (P := P) w 9999 kt us.toArray vs.toArray (by rw [hf]; exact und_ok hu) hst
          rw [hf, aeqF_ok g1 g2 9998 w hb] at he
          exact he
      · cases hb
    simp only [afnd] at h
    split at h
    · rename_i hs
      obtain rfl := Option.some.inj h
      have := heq true hs
      refine ⟨some (i, e'.val), ?_, .inr ⟨i, e.2.1, e'.val, rfl, rfl, h1.2.1, Nat.le_refl _, e, by simp, rfl⟩⟩
      unfold Instr.findAsking
      simp [this]
    · rename_i hs
      have := heq false hs
      obtain ⟨r', f1, f2⟩ := fndAsk hu hk w h2 h
      refine ⟨r', ?_, ?_⟩
      · unfold Instr.findAsking
        simp only [Sem.run_bind, this, Result.andThen_ok, Bool.false_eq_true, if_false]
        exact f1
      rcases f2 with h3 | ⟨j, a, v, h3, h4, h5, h6, e0, h7, h8⟩
      · exact .inl h3
      · refine .inr ⟨j, a, v, h3, h4, h5, by omega, e0, ?_, h8⟩
        rw [show j - i = (j - (i + 1)) + 1 by omega, List.getElem?_cons_succ]; exact h7
    · cases h
theorem fnd_ok {m : Map} {kt : TypeId} {d : TypeDesc} (hu : und P kt = some d) {k : AV} {kv : Value} (hk : cvo m k = some kv) (w : World) {es : List (AV × AV × Nat)} {es' : List MapEntry} {r : Option (Nat × AV)} (hE : F2 (EntOk m) es es') (h : afnd P kt d k es 0 = some r) :
    ∃ r', (Instr.findKey kt kv es').run P w = .ok r' w ∧ ((r = none ∧ r' = none) ∨ ∃ j a v, r = some (j, a) ∧ r' = some (j, v) ∧ cvo m a = some v ∧ ∃ e, es[j]? = some e ∧ e.2.1 = a) := by
  have fin : ∀ r', ((r = none ∧ r' = none) ∨ ∃ j a v, r = some (j, a) ∧ r' = some (j, v) ∧ cvo m a = some v ∧ 0 ≤ j ∧ ∃ e, es[j - 0]? = some e ∧ e.2.1 = a) →
      ((r = none ∧ r' = none) ∨ ∃ j a v, r = some (j, a) ∧ r' = some (j, v) ∧ cvo m a = some v ∧ ∃ e, es[j]? = some e ∧ e.2.1 = a) := by
    rintro r' (h | ⟨j, a, v, h1, h2, h3, _, e, h4, h5⟩)
    · exact .inl h
    · exact .inr ⟨j, a, v, h1, h2, h3, e, h4, h5⟩
  cases hS : isS d with
  | false =>
    obtain ⟨r', h1, h2⟩ := fndNow hS hk hE h
    exact ⟨r', by unfold Instr.findKey; simp [run_und hu, h1], fin r' h2⟩
  | true =>
    obtain ⟨fs, rfl⟩ : ∃ fs, d = .struct fs := by cases d <;> first | exact ⟨_, rfl⟩ | cases hS
    cases hE with
    | nil =>
      simp [afnd] at h; subst h
      exact ⟨none, by unfold Instr.findKey; simp [run_und hu, Instr.findNow], .inl ⟨rfl, rfl⟩⟩
    | cons h1 h2 =>
      rename_i e e' es es'
      obtain ⟨r', f1, f2⟩ := fndAsk hu hk w (.cons h1 h2) h
      refine ⟨r', ?_, fin r' f2⟩
      have hno : Instr.findNow (.struct fs) kv (e' :: es') 0 = none := by simp [Instr.findNow, Instr.sameNow]
      unfold Instr.findKey
      simp only [Sem.run_bind, run_und hu, Result.andThen_ok, hno]
      exact f1
def alook (P : Program) (t : TypeId) (lk : Lk) (a k : AV) (ok : Bool) : Option AV :=
  match und P t, a with
  | some (.map kt et), .mp id => match und P kt, lk id with
    | some d, some (.map es _) => bif ack P d k then (match afnd P kt d k es 0 with
      | some (some (_, v)) => some (bif ok then .tp [v, .b true] else v)
      | some none => match zero P et with
        | some z => some (bif ok then .tp [z, .b false] else z)
        | none => none
      | none => none) else none
    | _, _ => none
  | some (.map kt et), .nmp => match und P kt, zero P et with
    | some d, some z => bif ack P d k then some (bif ok then .tp [z, .b false] else z) else none
    | _, _ => none
  | _, _ => none
theorem alook_ok {m : Map} {lk : Lk} {w : World} (hR : R lk m w) {t : TypeId} {a k r : AV} {ok : Bool} {u kv : Value} (h : alook P t lk a k ok = some r) (ha : cvo m a = some u) (hk : cvo m k = some kv) :
    ∃ v, cvo m r = some v ∧ (Instr.lookup t u kv ok).run P w = .ok v w := by
  unfold alook at h
  split at h
  · rename_i kt et id ht
    split at h
    · rename_i d es ck hd hlk
      cases hkk : ack P d k with
      | false => rw [hkk] at h; cases h
      | true =>
        rw [hkk, cond_true] at h
        obtain ⟨L, es', h1, h2, h3⟩ := hR.holds _ _ hlk
        simp only [cvo, h1, Option.map_some, Option.some.injEq] at ha
        subst ha
        split at h
        · rename_i j v hf
          obtain rfl := Option.some.inj h
          obtain ⟨r', f0, f⟩ := fnd_ok hd hk w h3 hf
          rcases f with ⟨hh, _⟩ | ⟨j', a', v', hh, rfl, f1, _⟩
          · cases hh
          · obtain ⟨rfl, rfl⟩ := Prod.mk.inj (Option.some.inj hh)
            refine ⟨if ok then .tuple #[v', .bool true] else v', ?_, ?_⟩
            · cases ok <;> simp [cvo, cvs, f1]
            · simp [Instr.lookup, run_und ht, MapKept.run_getObj_map h2, checkKey_ok hd hkk hk, f0]
        · rename_i hf
          split at h
          · rename_i z hz
            obtain rfl := Option.some.inj h
            obtain ⟨zv, hzv, hrun⟩ := zero_ok hz m
            obtain ⟨r', f0, f⟩ := fnd_ok hd hk w h3 hf
            rcases f with ⟨_, rfl⟩ | ⟨_, _, _, hh, _⟩
            · refine ⟨if ok then .tuple #[zv, .bool false] else zv, ?_, ?_⟩
              · cases ok <;> simp [cvo, cvs, hzv]
              · simp [Instr.lookup, run_und ht, MapKept.run_getObj_map h2, checkKey_ok hd hkk hk, f0, hrun]
            · cases hh
          · cases h
        · cases h
    · cases h
  · rename_i kt et ht
    split at h
    · rename_i d z hd hz
      cases hkk : ack P d k with
      | false => rw [hkk] at h; cases h
      | true =>
        rw [hkk, cond_true] at h
        obtain rfl := Option.some.inj h
        obtain ⟨zv, hzv, hrun⟩ := zero_ok hz m
        simp only [cvo, Option.some.injEq] at ha
        subst ha
        obtain ⟨r', f0, f⟩ := fnd_ok (m := m) (es := []) (es' := []) (r := none) hd hk w .nil rfl
        rcases f with ⟨_, rfl⟩ | ⟨_, _, _, hh, _⟩
        · refine ⟨if ok then .tuple #[zv, .bool false] else zv, ?_, ?_⟩
          · cases ok <;> simp [cvo, cvs, hzv]
          · simp [Instr.lookup, run_und ht, checkKey_ok hd hkk hk, f0, hrun]
        · cases hh
    · cases h
  · cases h
end
end Am
