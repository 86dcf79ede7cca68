/- A machine for closed runs: the machine is sound. No program in sight. -/
import Derived.Test.YtbeageacgalhiaaGreatDoorAmU
set_option linter.unusedVariables false
set_option linter.unusedSimpArgs false
namespace Am
open Go
noncomputable section
variable {P : Program} {K : Known}

def EnvOk (m : Map) (env : Env) (tmps : Array Value) : Prop := ∀ t a, eget env t = some a → ∃ v, tmps[t]? = some v ∧ cvo m a = some v
theorem EnvOk.ext {m m' : Map} {env : Env} {tmps : Array Value} (h : EnvOk m env tmps) (he : Ext m m') : EnvOk m' env tmps := fun t a ha => by
  obtain ⟨v, h1, h2⟩ := h t a ha
  exact ⟨v, h1, cvo_mono he _ h2⟩
def Gl (K : Known) (m : Map) : Prop := ∀ g, g < K.g → ∃ e, m g = some ⟨g, 0, e⟩
theorem Gl.ext {m m' : Map} (h : Gl K m) (he : Ext m m') : Gl K m' := fun g hg => by
  obtain ⟨e, h1⟩ := h g hg
  exact ⟨e, he _ _ h1⟩
theorem evo_ok {m : Map} {env : Env} {a : Act} (hG : Gl K m) (hE : EnvOk m env a.tmps) : RhoOk m (evo K env) a.eval := fun x v hx => by
  cases x with
  | tmp t =>
    obtain ⟨u, h1, h2⟩ := hE t v hx
    simp [Act.eval, h1, h2]
  | const c =>
    have hx : Option.rec (motive := fun _ => Option AV) none (fun a => some a) (konst c) = some v := hx
    cases hk : konst c with
    | none => rw [hk] at hx; cases hx
    | some a => rw [hk] at hx; exact konst_ok (hk.trans hx)
  | global g =>
    have hx : cnd (Nat.blt g K.g) (some (AV.p g 0)) none = some v := hx
    rw [cnd_bif] at hx
    cases hb : Nat.blt g K.g with
    | false => rw [hb] at hx; cases hx
    | true =>
      rw [hb, cond_true] at hx
      rw [blt_iff] at hb
      obtain rfl := Option.some.inj hx
      obtain ⟨e, he⟩ := hG g hb
      simp [cvo, he, Act.eval]
  | func f =>
    obtain rfl := Option.some.inj hx
    simp [cvo, cvs, Act.eval]
/-- one place is new -/
def Upd (n : Nat) (env : Env) (d : Option Tmp) (v : AV) (env' : Env) : Prop :=
  match d with
  | none => env' = env
  | some d => d < n ∧ ∀ k a, eget env' k = some a → (k = d ∧ a = v) ∨ (k ≠ d ∧ eget env k = some a)
theorem aput_upd {n : Nat} {env env' : Env} {d : Option Tmp} {v : AV} (h : aput n env d v = some env') : Upd n env d v env' := by
  cases d with
  | none => exact (Option.some.inj h).symm
  | some d =>
    have h : cnd (Nat.blt d n) (some (eput env d v)) none = some env' := h
    rw [cnd_bif] at h
    cases hb : Nat.blt d n with
    | false => rw [hb] at h; cases h
    | true =>
      rw [hb, cond_true] at h
      rw [blt_iff] at hb
      obtain rfl := Option.some.inj h
      exact ⟨hb, fun k a hk => eget_eput hk⟩
theorem upd_ok {m : Map} {n : Nat} {env env' : Env} {d : Option Tmp} {v : AV} {u : Value} {a : Act} (h : Upd n env d v env') (hE : EnvOk m env a.tmps) (hn : a.tmps.size = n) (hv : cvo m v = some u) :
    EnvOk m env' (a.put d u).tmps ∧ (a.put d u).tmps.size = n := by
  cases d with
  | none => obtain rfl : env' = env := h; exact ⟨hE, hn⟩
  | some d =>
    obtain ⟨hb, h⟩ := h
    refine ⟨fun t x hx => ?_, by simp [Act.put, hn]⟩
    rcases h t x hx with ⟨rfl, rfl⟩ | ⟨hne, hx⟩
    · exact ⟨u, by simp [Act.put, hn, hb], hv⟩
    · obtain ⟨v', h1, h2⟩ := hE t x hx
      exact ⟨v', by simp only [Act.put]; rw [Array.getElem?_setIfInBounds_ne (fun e => hne e.symm)]; exact h1, h2⟩
theorem aput_ok {m : Map} {n : Nat} {env env' : Env} {d : Option Tmp} {v : AV} {u : Value} {a : Act} (h : aput n env d v = some env') (hE : EnvOk m env a.tmps) (hn : a.tmps.size = n) (hv : cvo m v = some u) :
    EnvOk m env' (a.put d u).tmps ∧ (a.put d u).tmps.size = n := upd_ok (aput_upd h) hE hn hv
theorem put_defers (a : Act) (d : Option Tmp) (u : Value) : (a.put d u).defers = a.defers := by cases d <;> rfl

/-- what a quiet operation does -/
theorem aquiet_le {S S' : St} {ρ : Rho} {o : Op} {r : AV} (h : aquiet P K S ρ o = some (r, S')) : S.nx ≤ S'.nx := by
  unfold aquiet at h
  split at h
  · obtain ⟨_, rfl⟩ := Prod.mk.inj (Option.some.inj h); exact Nat.le_refl _
  · split at h
    · obtain ⟨_, rfl⟩ := Prod.mk.inj (Option.some.inj h); exact Nat.le_refl _
    · split at h
      · cases hb : Nat.ble K.g S.nx with
        | false => rw [hb] at h; cases h
        | true =>
          rw [hb, cond_true] at h
          obtain ⟨_, rfl⟩ := Prod.mk.inj (Option.some.inj h); exact Nat.le_succ _
      · split at h
        · rename_i v S1 _
          cases hb : Nat.ble S.nx S1.nx with
          | false => rw [hb] at h; cases h
          | true =>
            rw [hb, cond_true] at h
            obtain ⟨_, rfl⟩ := Prod.mk.inj (Option.some.inj h)
            rw [Nat.ble_eq] at hb; exact hb
        · cases h
theorem aquiet_ok {m : Map} {S S' : St} {w : World} (hR : R S.lk m w) (hf : Fre m S.nx S'.nx) {ρ : Rho} {ev : Operand → Value} (hρ : RhoOk m ρ ev) {o : Oper} {r : AV} (h : aquiet P K S ρ o.op = some (r, S')) :
    Done P K.g m S w S' r ((execOp ev o).run P w) := by
  unfold aquiet at h
  split at h
  · rename_i v hv
    obtain ⟨rfl, rfl⟩ := Prod.mk.inj (Option.some.inj h)
    obtain ⟨z, h1, h2⟩ := apure_ok (P := P) hρ hv
    exact ⟨m, w, _, z, h2 w, .inl rfl, h1, Step.refl hR⟩
  · split at h
    · rename_i v hv
      obtain ⟨rfl, rfl⟩ := Prod.mk.inj (Option.some.inj h)
      obtain ⟨z, h1, h2⟩ := ard_ok (P := P) hR hρ hv
      exact ⟨m, w, _, z, h2, .inl rfl, h1, Step.refl hR⟩
    · split at h
      · rename_i blk f hv
        cases hb : Nat.ble K.g S.nx with
        | false => rw [hb] at h; cases h
        | true =>
          rw [hb, cond_true] at h
          rw [Nat.ble_eq] at hb
          obtain ⟨rfl, rfl⟩ := Prod.mk.inj (Option.some.inj h)
          have hm : m S.nx = none := hf S.nx (Nat.le_refl _) (Nat.lt_succ_self _)
          obtain ⟨ob, e, hn⟩ := aalloc_ok (P := P) hρ hv
          obtain ⟨h1, u, h2, h3⟩ := hn (mset m S.nx ⟨w.heap.size, 0, e⟩) S.nx w (w.alloc ob) (mset_ext hm) (mset_self _ _ _) rfl
          exact ⟨mset m S.nx ⟨w.heap.size, 0, e⟩, w.alloc ob, _, u, h3, .inl rfl, h2,
            Step.new hR hb hm rfl rfl rfl rfl (fun j b hj => T.get_put _ _ _ _ hj) (fun j hj => T.get_put_ne _ _ _ _ hj) h1⟩
      · split at h
        · rename_i v S1 hv
          cases hb : Nat.ble S.nx S1.nx with
          | false => rw [hb] at h; cases h
          | true =>
            rw [hb, cond_true] at h
            obtain ⟨rfl, rfl⟩ := Prod.mk.inj (Option.some.inj h)
            exact awr_ok (P := P) hR hf hρ hv
        · cases h

/-- what is known of the program holds -/
structure KnownOk (P : Program) (K : Known) : Prop where
  enter : ∀ f, K.enter f = true → ∀ args w, (callFunc f args).run P w = .ok (.enter f args) w
  ext1 : ∀ f, K.enter f = false → K.ext f = 1 → ∀ args w, (callFunc f args).run P w = ((do pure (.value (← Extern.BytealgIndexByte.indexByte args)) : Sem Next)).run P w
  ext2 : ∀ f, K.enter f = false → K.ext f = 2 → ∀ args w, (callFunc f args).run P w = ((do pure (.value (← Extern.AbiNoEscape.same args)) : Sem Next)).run P w
  ext3 : ∀ f, K.enter f = false → K.ext f = 3 → ∃ ps rs : Array TypeId, rs[0]? = some K.mz ∧ ∀ args w, (callFunc f args).run P w = ((do pure (.value (← Extern.BytealgMakeNoZero.makeNoZero ps rs args)) : Sem Next)).run P w
  con : ∀ f, K.enter f = false → ∀ as S v, K.con (K.ext f) as S = some v → (∀ args w, (callFunc f args).run P w = .ok (.enter f args) w) ∧
    ∀ m w args, R S.lk m w → Gl K m → cvs m as = some args → ∃ u, cvo m v = some u ∧ Calls P f args.toArray w fun e w' => e = .returned u ∧ Go.RowKit.Below w.heap.size w w'
  mixed : P.follows .mixedOrders = true

def Out.exit' : Out → Exit
  | .norm => .normal
  | .exit id => .exit id
  | .ret => .ret
def Out.ex : Out → Exit := Out.exit'
/-- the machine one layer down is sound -/
def Sound (P : Program) (K : Known) (ih : Code → Nat → Env → St → Ex) : Prop :=
  ∀ c n env S o env' S', ih c n env S = .ok o env' S' → S.nx ≤ S'.nx ∧
    ∀ m a w, R S.lk m w → Fre m S.nx S'.nx → Gl K m → EnvOk m env a.tmps → a.tmps.size = n → a.defers = [] →
      ∀ Q : Exit → Act → World → Prop, (∀ m' a' w', Step K.g m S.lk S.nx w m' S'.lk S'.nx w' → EnvOk m' env' a'.tmps → a'.tmps.size = n → a'.defers = [] → Q o.ex a' w') → c.wp P Q a w

theorem app2_eq (a b : List AV) : app2 a b = a ++ b := by
  induction a with
  | nil => rfl
  | cons x a ih => rw [List.cons_append, ← ih]; rfl
theorem acallee_ok {m : Map} {ρ : Rho} {ev : Operand → Value} (hρ : RhoOk m ρ ev) {o : Oper} {f : FuncId} {as : List AV} (h : acallee ρ o.op = some (f, as)) :
    ∃ args, cvs m as = some args ∧ ∀ w, (execOp ev o).run P w = (callFunc f args.toArray).run P w := by
  obtain ⟨dst, op, type, pos, after, guard⟩ := o
  cases op <;> simp only [acallee, reduceCtorEq] at h
  case call c =>
    split at h
    · rename_i x hx
      split at h
      · rename_i f' a b as' hf has
        obtain ⟨rfl, rfl⟩ := Prod.mk.inj (Option.some.inj h)
        have hfv := hρ _ _ hf
        simp only [cvo, Option.bind_eq_some_iff, Option.map_eq_some_iff] at hfv
        obtain ⟨a', h1, b', h2, h3⟩ := hfv
        have hm := amap_ok hρ has
        refine ⟨a' ++ (c.args.toList.map ev ++ b'), by rw [app2_eq, app2_eq]; exact cvs_append h1 (cvs_append hm h2), fun w => ?_⟩
        have e : a'.toArray ++ c.args.map ev ++ b'.toArray = (a' ++ (c.args.toList.map ev ++ b')).toArray := by apply Array.ext'; simp
        simp only [execOp, resolve, hx, Deferred.ofValue, ← h3, Sem.run_bind, Sem.run_pure, Result.andThen_ok, invoke, e]
      · cases h
    · cases h
theorem ienv_ok {m : Map} {l : List AV} : ∀ {vs : List Value} {i : Nat} {env : Env} {tmps : Array Value}, cvs m l = some vs → (∀ j v, vs[j]? = some v → tmps[i + j]? = some v) → EnvOk m env tmps → EnvOk m (ienv l i env) tmps := by
  induction l with
  | nil =>
    intro vs i env tmps hl ht hE
    rw [ienv_nil]; exact hE
  | cons a l ih =>
    intro vs i env tmps hl ht hE
    obtain ⟨v, vs', h1, h2, rfl⟩ := cvs_cons.1 hl
    rw [ienv_cons]
    refine ih h2 (fun j u hu => ?_) (fun t x hx => ?_)
    · have := ht (j + 1) u (by rw [List.getElem?_cons_succ]; exact hu)
      rw [show Nat.succ i + j = i + (j + 1) by omega]; exact this
    · rcases eget_eput hx with ⟨rfl, rfl⟩ | ⟨hne, hx⟩
      · exact ⟨v, by have := ht 0 v rfl; rwa [Nat.add_zero] at this, h1⟩
      · exact hE t x hx
def rvs (tmps : Array Value) : ResultVar → Sem Value
  | .tmp t => pure (tmps.getD t undef)
  | .cell a t => do loadVar t (← asAddr (tmps.getD a undef))
theorem ares1_ok {m : Map} {S : St} {env : Env} {a : Act} {w : World} (hR : R S.lk m w) (hE : EnvOk m env a.tmps) {r : ResultVar} {x : AV} (h : ares1 P K env S r = some x) :
    ∃ v, cvo m x = some v ∧ (rvs a.tmps r).run P w = .ok v w := by
  cases r with
  | tmp t =>
    obtain ⟨v, h1, h2⟩ := hE t x h
    exact ⟨v, h2, by simp [rvs, h1]⟩
  | cell b t =>
    simp only [ares1] at h
    split at h
    · rename_i id off hb
      split at h
      · rename_i t' cs fz ex hlk
        obtain ⟨u, h1, h2⟩ := hE b _ hb
        obtain ⟨v, h3, h4⟩ := ald_ok (P := P) hR hlk h h2
        simp only [cvo, Option.map_eq_some_iff] at h2
        obtain ⟨L, _, rfl⟩ := h2
        refine ⟨v, h3, ?_⟩
        simp only [rvs, Array.getD_eq_getD_getElem?, h1, Option.getD_some, asAddr, Sem.run_bind, Sem.run_pure, Result.andThen_ok]
        simpa [Instr.loadAt, Instr.sureAddr] using h4
      · cases h
    · cases h
theorem aress_ok {m : Map} {S : St} {env : Env} {a : Act} {w : World} (hR : R S.lk m w) (hE : EnvOk m env a.tmps) : ∀ {l : List ResultVar} {xs : List AV}, aress P K env S l = some xs →
    ∃ vs, cvs m xs = some vs ∧ (l.mapM (rvs a.tmps)).run P w = .ok vs w
  | [], xs, h => by
    have h : some [] = some xs := h
    obtain rfl := Option.some.inj h; exact ⟨[], rfl, rfl⟩
  | r :: l, xs, h => by
    obtain ⟨x, ys, hx, hys, rfl⟩ := obl_some (x := ares1 P K env S r) (y := aress P K env S l) h
    obtain ⟨v, h1, h2⟩ := ares1_ok hR hE hx
    obtain ⟨vs, h3, h4⟩ := aress_ok hR hE hys
    refine ⟨v :: vs, cvs_cons.2 ⟨v, vs, h1, h3, rfl⟩, ?_⟩
    rw [List.mapM_cons]
    simp only [Sem.run_bind, Sem.run_pure]
    rw [h2]
    simp only [Result.andThen_ok]
    rw [h4]
    rfl
theorem ares_ok {m : Map} {S : St} {env : Env} {a : Act} {w : World} (hR : R S.lk m w) (hE : EnvOk m env a.tmps) {fn : Func} {x : AV} (h : ares P K env S fn.results.toList = some x) :
    ∃ v, cvo m x = some v ∧ (results fn a.tmps).run P w = .ok v w := by
  unfold ares at h
  have key : ∀ {xs : List AV} {vs : List Value}, aress P K env S fn.results.toList = some xs → cvs m xs = some vs → (fn.results.toList.mapM (rvs a.tmps)).run P w = .ok vs w →
      (results fn a.tmps).run P w = .ok (if h : vs.toArray.size = 1 then vs.toArray[0] else .tuple vs.toArray) w := by
    intro xs vs _ _ hr
    have e : results fn a.tmps = (do let vs ← fn.results.mapM (rvs a.tmps); pure (if h : vs.size = 1 then vs[0] else .tuple vs)) := rfl
    rw [e, Sem.run_bind, Array.mapM_eq_mapM_toList, Sem.run_map, hr]
    rfl
  cases hy : aress P K env S fn.results.toList with
  | none => rw [hy] at h; cases h
  | some ys =>
    rw [hy] at h
    have h : some (onet ys) = some x := h
    obtain rfl := Option.some.inj h
    obtain ⟨vs, h1, h2⟩ := aress_ok hR hE hy
    match ys, hy, h1 with
    | [], hy, h1 =>
      simp [cvs] at h1; subst h1
      exact ⟨.tuple #[], rfl, by rw [key hy rfl h2]; rfl⟩
    | [y], hy, h1 =>
      obtain ⟨v, vs', h3, h4, rfl⟩ := cvs_cons.1 h1
      simp [cvs] at h4; subst h4
      exact ⟨v, h3, by rw [key hy h1 h2]; rfl⟩
    | y :: z :: ys, hy, h1 =>
      refine ⟨.tuple vs.toArray, by show (cvs m (y :: z :: ys)).map _ = _; rw [h1]; rfl, ?_⟩
      rw [key hy h1 h2]
      have : ¬ vs.toArray.size = 1 := by
        intro hl
        rw [List.size_toArray, cvs_length h1] at hl
        simp at hl
      rw [dif_neg this]
end
end Am
