/- A machine for closed runs: the machine is sound, but for what a region that draws asks. No program in sight. -/
import Derived.Test.YtbeageacgalhiaaGreatDoorAmW
set_option linter.unusedVariables false
set_option linter.unusedSimpArgs false
namespace Am
open Go
noncomputable section
variable {P : Program} {K : Known}

theorem aextern_le {S S' : St} {k : Nat} {as : List AV} {r : AV} (h : aextern P K S k as = some (r, S')) : S.nx ≤ S'.nx := by
  unfold aextern at h
  split at h
  · rename_i n x c
    cases hb : Nat.blt c 256 with
    | false => rw [hb] at h; cases h
    | true => rw [hb, cond_true] at h; obtain ⟨_, rfl⟩ := Prod.mk.inj (Option.some.inj h); exact Nat.le_refl _
  · obtain ⟨_, rfl⟩ := Prod.mk.inj (Option.some.inj h); exact Nat.le_refl _
  · split at h
    · rename_i n _ e _
      cases hb : (Nat.ble K.g S.nx && Nat.ble n 1073741824) with
      | false => rw [hb] at h; cases h
      | true => rw [hb, cond_true] at h; obtain ⟨_, rfl⟩ := Prod.mk.inj (Option.some.inj h); exact Nat.le_succ _
    · cases h
  · cases h
/-- what turns no block that was there keeps all -/
theorem Step.below {g : Nat} {m : Map} {lk : Lk} {nx : Nat} {w w' : World} (hR : R lk m w) (hb : Go.RowKit.Below w.heap.size w w') : Step g m lk nx w m lk nx w' :=
  ⟨fun _ _ h => h, fun _ _ h => .inl h, Nat.le_refl _, ⟨fun id b hid => by
      obtain ⟨L, h1, h2⟩ := (hR.holds id b hid).loc
      exact (hR.holds id b hid).mono (fun _ _ h => h) (fun L' h' => by
        rw [h1] at h'
        obtain rfl := Option.some.inj h'
        exact hb.block _ h2), hR.inj⟩, hb.os, hb.tape, hb.output, hb.size, fun k hk _ => hb.block k hk, fun id blk L h1 h2 h3 => .inr ⟨id, blk, L, h1, h2, h3, rfl⟩, fun _ _ _ h => h, fun _ b h => .inl ⟨b, h⟩⟩
/-- what a call gives -/
def Got (K : Known) (m : Map) (S : St) (w : World) (S' : St) (r : AV) (e : Ending) (w' : World) : Prop :=
  ∃ m' v, e = .returned v ∧ cvo m' r = some v ∧ Step K.g m S.lk S.nx w m' S'.lk S'.nx w'
theorem aext_le {S S' : St} {f : FuncId} {as : List AV} {r : AV} (h : aext P K S f as = some (r, S')) : S.nx ≤ S'.nx := by
  unfold aext at h
  split at h
  · rename_i p hp
    obtain rfl := Option.some.inj h
    exact aextern_le hp
  · split at h
    · obtain ⟨_, rfl⟩ := Prod.mk.inj (Option.some.inj h); exact Nat.le_refl _
    · cases h
theorem aext_ok (hK : KnownOk P K) {m : Map} {S S' : St} {w : World} (hR : R S.lk m w) (hG : Gl K m) (hf : Fre m S.nx S'.nx) {f : FuncId} {as : List AV} {args : List Value} {r : AV} (he : K.enter f = false) (h : aext P K S f as = some (r, S')) (ha : cvs m as = some args) :
    ((∀ args w, (callFunc f args).run P w = .ok (.enter f args) w) ∧ Calls P f args.toArray w (Got K m S w S' r)) ∨ (∃ m' w' v, (callFunc f args.toArray).run P w = .ok (.value v) w' ∧ cvo m' r = some v ∧ Step K.g m S.lk S.nx w m' S'.lk S'.nx w') := by
  unfold aext at h
  split at h
  · rename_i p hp
    obtain rfl := Option.some.inj h
    exact .inr (aextern_ok hK hR hf he hp ha)
  · split at h
    · rename_i v hv
      obtain ⟨rfl, rfl⟩ := Prod.mk.inj (Option.some.inj h)
      obtain ⟨h1, h2⟩ := hK.con f he as S v hv
      obtain ⟨u, h3, h4⟩ := h2 m w args hR hG ha
      refine .inl ⟨h1, Calls.mono h4 ?_⟩
      rintro e w' ⟨rfl, hb⟩
      exact ⟨m, u, rfl, h3, Step.below hR hb⟩
    · cases h
theorem acallf_ok (hK : KnownOk P K) {ih : Code → Nat → Env → St → Ex} (hS : Sound P K ih) {S S' : St} {f : FuncId} {as : List AV} {r : AV} (h : acallf P K ih S f as = .ok r S') :
    S.nx ≤ S'.nx ∧ ∀ m w args, R S.lk m w → Fre m S.nx S'.nx → Gl K m → cvs m as = some args →
      ((∀ args w, (callFunc f args).run P w = .ok (.enter f args) w) ∧ Calls P f args.toArray w (Got K m S w S' r)) ∨ (∃ m' w' v, (callFunc f args.toArray).run P w = .ok (.value v) w' ∧ cvo m' r = some v ∧ Step K.g m S.lk S.nx w m' S'.lk S'.nx w') := by
  unfold acallf at h
  cases he : K.enter f with
  | false =>
    rw [he, cond_false] at h
    split at h
    · rename_i v S1 hx
      cases h
      exact ⟨aext_le hx, fun m w args hR hf hG ha => aext_ok hK hR hG hf he hx ha⟩
    · cases h
  | true =>
    rw [he, cond_true] at h
    split at h
    · cases h
    rename_i fn hfn
    split at h
    · cases h
    rename_i c hc
    cases hb : Nat.ble (len as) fn.ntmps with
    | false => rw [hb] at h; cases h
    | true =>
    rw [hb, cond_true] at h
    rw [Nat.ble_eq, len_eq] at hb
    have core : ∀ (o : Out) env S1 v, ih c fn.ntmps (ienv as 0 enew) S = .ok o env S1 → (o = .norm ∨ o = .ret) → ares P K env S1 fn.results.toList = some v → S.nx ≤ S1.nx ∧ ∀ m w args, R S.lk m w → Fre m S.nx S1.nx → Gl K m → cvs m as = some args → Calls P f args.toArray w (Got K m S w S1 v) := by
      intro o env S1 v hi ho hv
      obtain ⟨hle, hs⟩ := hS _ _ _ _ _ _ _ hi
      refine ⟨hle, fun m w args hR hf hG ha => ?_⟩
      have hal := cvs_length ha
      refine calls_of_wp ((fnc_eq P f).symm.trans hfn) hc ?_
      refine hs m _ w hR hf hG ?_ ?_ rfl _ ?_
      · refine ienv_ok ha (fun j u hu => ?_) (fun t x hx => by rw [eget_new] at hx; cases hx)
        have hj : j < args.length := (List.getElem?_eq_some_iff.1 hu).1
        rw [Nat.zero_add, Array.getElem?_append_left (by simpa using hj)]
        simpa using hu
      · simp; omega
      · intro m' a' w' hst hE hn hd
        obtain ⟨u, h1, h2⟩ := ares_ok (fn := fn) hst.rel hE hv
        rcases ho with rfl | rfl
        · exact ⟨hd, u, h2, m', u, rfl, h1, hst⟩
        · exact ⟨hd, u, h2, m', u, rfl, h1, hst⟩
    split at h
    · cases h
    · rename_i env S1 hi
      split at h
      · rename_i v hv
        cases h
        obtain ⟨q1, q2⟩ := core _ _ _ _ hi (.inl rfl) hv
        exact ⟨q1, fun m w args h1 h2 h3 h4 => .inl ⟨hK.enter f he, q2 m w args h1 h2 h3 h4⟩⟩
      · cases h
    · rename_i env S1 hi
      split at h
      · rename_i v hv
        cases h
        obtain ⟨q1, q2⟩ := core _ _ _ _ hi (.inr rfl) hv
        exact ⟨q1, fun m w args h1 h2 h3 h4 => .inl ⟨hK.enter f he, q2 m w args h1 h2 h3 h4⟩⟩
      · cases h
    · cases h
theorem aop0_ok (hK : KnownOk P K) {ih : Code → Nat → Env → St → Ex} (hS : Sound P K ih) {S S' : St} {ρ : Rho} {o : Oper} {r : AV} (h : aop0 P K ih S ρ o.op = .ok r S') :
    S.nx ≤ S'.nx ∧ ∀ m a w, R S.lk m w → Fre m S.nx S'.nx → Gl K m → RhoOk m ρ a.eval → ∀ (next : Act → World → Prop) (Q : Exit → Act → World → Prop),
      (∀ m' v w', Step K.g m S.lk S.nx w m' S'.lk S'.nx w' → cvo m' r = some v → next (a.put o.dst v) w') → o.wp P a w next Q := by
  unfold aop0 at h
  split at h
  · rename_i v S1 hq
    cases h
    refine ⟨aquiet_le hq, fun m a w hR hf hG hρ next Q hn => ?_⟩
    obtain ⟨m', w', nx, u, h1, h2, h3, h4⟩ := aquiet_ok (P := P) hR hf hρ hq
    unfold Oper.wp
    rw [h1]
    rcases h2 with rfl | ⟨rfl, rfl⟩
    · exact hn m' u w' h4 h3
    · exact hn m' undef w' h4 h3
  · split at h
    · rename_i f as hc
      obtain ⟨hle, hs⟩ := acallf_ok hK hS h
      refine ⟨hle, fun m a w hR hf hG hρ next Q hn => ?_⟩
      obtain ⟨args, ha, hrun⟩ := acallee_ok (P := P) hρ hc
      unfold Oper.wp
      rw [hrun]
      rcases hs m w args hR hf hG ha with ⟨he, hcalls⟩ | ⟨m', w', v, h1, h2, h3⟩
      · rw [he]
        refine Calls.mono hcalls ?_
        rintro e w' ⟨m', v, rfl, h1, h2⟩
        exact hn m' v w' h2 h1
      · rw [h1]
        exact hn m' v w' h3 h2
    · cases h
theorem clo_ok {S S' : St} {x : Option AV} {g : Cl} {r : AV} (h : clo S x g = .ok r S') : (x = some r ∧ S' = S) ∨ (x = none ∧ g = .ok r S') := by
  cases x with
  | none => exact .inr ⟨rfl, h⟩
  | some v =>
    have h : Cl.ok v S = .ok r S' := h
    cases h; exact .inl ⟨rfl, rfl⟩
theorem aop0_pure {ih : Code → Nat → Env → St → Ex} {S : St} {ρ : Rho} {o : Op} {r : AV} (h : apure P ρ o = some r) : aop0 P K ih S ρ o = .ok r S := by
  simp only [aop0, aquiet, h]
theorem aop_aop0 {ih : Code → Nat → Env → St → Ex} {S S' : St} {ρ : Rho} {o : Op} {r : AV} (h : aop P K ih S ρ o = .ok r S') : aop0 P K ih S ρ o = .ok r S' := by
  have pu : ∀ {x : Option AV} {p : Op}, (∀ r, x = some r → apure P ρ p = some r) → clo S x (.bad []) = .ok r S' → aop0 P K ih S ρ p = .ok r S' := by
    intro x p hp h
    rcases clo_ok h with ⟨h1, rfl⟩ | ⟨_, h1⟩
    · exact aop0_pure (hp _ h1)
    · cases h1
  cases o with
  | move x => exact pu (fun r h => h) h
  | assign x => exact pu (fun r h => h) h
  | pick c a b => exact pu (fun r h => qpick_ok h) h
  | nilCheck x => exact pu (fun r h => qnil_ok h) h
  | binOp op t x y u => exact pu (fun r h => qbin_ok h) h
  | fieldAddr s x f => exact pu (fun r h => qfda_ok h) h
  | indexAddr t x i => exact pu (fun r h => qixa_ok h) h
  | index t x i => exact pu (fun r h => qidx_ok h) h
  | load t x =>
    rcases clo_ok h with ⟨h1, rfl⟩ | ⟨_, h1⟩
    · have := qload_ok h1
      have h0 : apure P ρ (.load t x) = none := rfl
      simp only [aop0, aquiet, h0, this]
    · cases h1
  | convert s d x =>
    rcases clo_ok h with ⟨h1, rfl⟩ | ⟨_, h1⟩
    · exact aop0_pure (qconv_ok h1)
    · exact h1
  | store t x v =>
    have h : cls (qsto P K.g S ρ t x v) = .ok r S' := h
    cases hq : qsto P K.g S ρ t x v with
    | none => rw [hq] at h; cases h
    | some S1 =>
      rw [hq] at h
      have h : Cl.ok (.tp []) S1 = .ok r S' := h
      cases h
      obtain ⟨h1, h2⟩ := qsto_ok hq
      have e1 : apure P ρ (.store t x v) = none := rfl
      have e2 : ard P S.lk ρ (.store t x v) = none := rfl
      have e3 : aalloc P ρ (.store t x v) = none := rfl
      have e4 : Nat.ble S.nx S'.nx = true := by rw [h2, Nat.ble_eq]; exact Nat.le_refl _
      simp only [aop0, aquiet, e1, e2, e3, h1, e4, cond_true]
  | extract x i => exact pu (fun r h => qext_ok h) h
  | field t x f => exact pu (fun r h => qfld_ok h) h
  | slice t x a b c =>
    rcases clo_ok h with ⟨h1, rfl⟩ | ⟨_, h1⟩
    · exact aop0_pure (qsli_ok h1)
    · exact h1
  | call c =>
    obtain ⟨ce, args, tys⟩ := c
    cases ce with
    | value x => cases h
    | invoke x s => cases h
    | builtin b =>
      have h : clo S (qbul P ρ b args tys) (aop0 P K ih S ρ (.call ⟨.builtin b, args, tys⟩)) = .ok r S' := h
      rcases clo_ok h with ⟨h1, rfl⟩ | ⟨_, h1⟩
      · exact aop0_pure (qbul_ok h1)
      · exact h1
  | _ => first | exact h | cases h
theorem aop_ok (hK : KnownOk P K) {ih : Code → Nat → Env → St → Ex} (hS : Sound P K ih) {S S' : St} {ρ : Rho} {o : Oper} {r : AV} (h : aop P K ih S ρ o.op = .ok r S') :
    S.nx ≤ S'.nx ∧ ∀ m a w, R S.lk m w → Fre m S.nx S'.nx → Gl K m → RhoOk m ρ a.eval → ∀ (next : Act → World → Prop) (Q : Exit → Act → World → Prop),
      (∀ m' v w', Step K.g m S.lk S.nx w m' S'.lk S'.nx w' → cvo m' r = some v → next (a.put o.dst v) w') → o.wp P a w next Q := aop0_ok hK hS (aop_aop0 h)
theorem awant_iff {all : List Oper} {env : Env} {o : Oper} {b : Bool} (h : awant all env o = some b) : (o.guard = none ∧ b = true) ∨ ∃ j w, o.guard = some (j, w) ∧ awant1 all env j w = some b := by
  unfold awant at h
  cases hg : o.guard with
  | none => rw [hg] at h; exact .inl ⟨rfl, (Option.some.inj h).symm⟩
  | some g => rw [hg] at h; exact .inr ⟨g.1, g.2, rfl, h⟩
theorem awant_ok {m : Map} {ops : Array Oper} {env : Env} {tmps : Array Value} (hE : EnvOk m env tmps) {o : Oper} {b : Bool} (h : awant ops.toList env o = some b) : Region.wanted o (yielded ops tmps) = b := by
  unfold Region.wanted
  rcases awant_iff h with ⟨hg, rfl⟩ | ⟨j, wnt, hg, h⟩
  · rw [hg]
  · rw [hg]
    unfold awant1 at h
    split at h
    · rename_i oj hj
      rw [nth_eq, Array.getElem?_toList] at hj
      split at h
      · rename_i t ht
        split at h
        · rename_i x hx
          obtain rfl := Option.some.inj h
          obtain ⟨v, h1, h2⟩ := hE _ _ hx
          simp only [cvo, Option.some.injEq] at h2; subst h2
          simp only [yielded, hj, Option.bind_some, ht, h1]
          cases x <;> cases wnt <;> rfl
        · rename_i l hx
          obtain rfl := Option.some.inj h
          obtain ⟨v, h1, h2⟩ := hE _ _ hx
          simp only [cvo, Option.map_eq_some_iff] at h2
          obtain ⟨vs, _, rfl⟩ := h2
          simp [yielded, hj, ht, h1]
        · cases h
      · cases h
    · cases h
/-! a loop, once round -/
theorem Steps.tail {m m1 t : Machine} (h : Steps P m t) (h1 : step P m = .next m1) (hne : m ≠ t) : Steps P m1 t := by
  obtain ⟨n, hn⟩ := h
  cases n with
  | zero => simp only [runN, Stepped.next.injEq] at hn; exact absurd hn hne
  | succ n => simp only [runN, h1] at hn; exact ⟨n, hn⟩
theorem exitTo_len : ∀ {k k' : List Item} {id : Nat}, exitTo id k = some k' → k'.length < k.length
  | [], k', id, h => by simp [exitTo] at h
  | x :: k, k', id, h => by
    cases x <;> simp only [exitTo] at h <;> try (have := exitTo_len h; simp only [List.length_cons]; omega)
    split at h
    · obtain rfl := Option.some.inj h; simp
    · have := exitTo_len h; simp only [List.length_cons]; omega
def Plain (Q : Exit → Act → World → Prop) : Prop := ∀ e a w, Q e a w → e = .normal ∨ (∃ id, e = .exit id) ∨ e = .ret
theorem wp_unroll {b : Code} {Q : Exit → Act → World → Prop} (hQ : Plain Q) {a : Act} {w : World} (h : b.wp P (Exit.then ((Code.loop b).wp P Q) Q) a w) : (Code.loop b).wp P Q a w := by
  intro fr k cs
  obtain ⟨e, a1, w1, hq, harr⟩ := h fr (.inLoop b :: k) cs
  cases e with
  | normal =>
    obtain ⟨e2, a2, w2, hq2, harr2⟩ := hq fr k cs
    refine ⟨e2, a2, w2, hq2, ?_⟩
    have s1 : step P (lone (fr.at a1 (.code (.loop b) :: k)) cs w1) = .next (lone (fr.at a1 (.code b :: .inLoop b :: k)) cs w1) := step_loop
    have s2 : step P (lone (fr.at a1 (.inLoop b :: k)) cs w1) = .next (lone (fr.at a1 (.code b :: .inLoop b :: k)) cs w1) := step_inLoop
    have base : Steps P (lone (fr.at a (.code (.loop b) :: k)) cs w) (lone (fr.at a1 (.code b :: .inLoop b :: k)) cs w1) := Steps.head step_loop (Steps.trans harr (.one s2))
    have todoOf : ∀ {f1 f2 : Frame} {c1 c2 : List Frame} {w1 w2 : World}, lone f1 c1 w1 = lone f2 c2 w2 → f1 = f2 := by
      intro f1 f2 c1 c2 w1 w2 he
      have := congrArg (fun m : Machine => (m.gs[0]?).map (·.frame)) he
      simpa [lone] using this
    rcases hQ _ _ _ hq2 with rfl | ⟨id, rfl⟩ | rfl
    · refine base.trans (Steps.tail harr2 s1 fun he => ?_)
      have := congrArg (fun f : Frame => f.todo.length) (todoOf he)
      simp [Frame.at] at this
    · intro k' hk'
      refine base.trans (Steps.tail (harr2 k' hk') s1 fun he => ?_)
      have h1 := congrArg (fun f : Frame => f.todo.length) (todoOf he)
      have h2 := exitTo_len hk'
      simp [Frame.at] at h1
      omega
    · obtain ⟨todo, hs⟩ := harr2
      refine ⟨todo, base.trans (Steps.tail hs s1 fun he => ?_)⟩
      have := congrArg (fun f : Frame => f.mode) (todoOf he)
      simp [Frame.at] at this
  | exit id => exact ⟨_, a1, w1, hq, .of_steps (.one step_loop) (.pass (x := .inLoop b) rfl (fun _ _ => .inl (by simp)) harr)⟩
  | goto l => exact ⟨_, a1, w1, hq, .of_steps (.one step_loop) (.pass (x := .inLoop b) rfl (fun _ _ => .inl (by simp)) harr)⟩
  | ret => exact ⟨_, a1, w1, hq, .of_steps (.one step_loop) (.pass (x := .inLoop b) rfl (fun _ _ => .inl (by simp)) harr)⟩
  | panic ch => exact ⟨_, a1, w1, hq, .of_steps (.one step_loop) (.pass (x := .inLoop b) rfl (fun _ _ => .inl (by simp)) harr)⟩
  | outgrown => exact ⟨_, a1, w1, hq, .of_steps (.one step_loop) (.pass (x := .inLoop b) rfl (fun _ _ => .inl (by simp)) harr)⟩

def DrawOk (P : Program) (K : Known) (draw : Draw) : Prop := ∀ ih, Sound P K ih → ∀ ops n id env S env' S', draw ih ops n id env S = .ok env' S' → S.nx ≤ S'.nx ∧
    ∀ m a w, R S.lk m w → Fre m S.nx S'.nx → Gl K m → EnvOk m env a.tmps → a.tmps.size = n → a.defers = [] → ∀ Q : Exit → Act → World → Prop,
      (∀ m' a' w', Step K.g m S.lk S.nx w m' S'.lk S'.nx w' → EnvOk m' env' a'.tmps → a'.tmps.size = n → a'.defers = [] → Q .normal a' w') → (Code.region id ops true).wp P Q a w
end
end Am
