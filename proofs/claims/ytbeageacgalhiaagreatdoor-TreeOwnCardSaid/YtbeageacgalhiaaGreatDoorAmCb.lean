/- A machine for closed runs: code that was turned into functions is sound, as its operations are. No program in sight. -/
import Derived.Test.YtbeageacgalhiaaGreatDoorAmOk
import Derived.Test.YtbeageacgalhiaaGreatDoorAmCa
set_option linter.unusedVariables false
set_option linter.unusedSimpArgs false
namespace Am
open Go
noncomputable section
variable {P : Program} {K : Known}

/-- an operation -/
def OpR (P : Program) (K : Known) (nt : Nat) (o : Oper) (env : Env) (S : St) (env1 : Env) (S1 : St) : Prop :=
  S.nx ≤ S1.nx ∧ ∀ m a w, R S.lk m w → Fre m S.nx S1.nx → Gl K m → EnvOk m env a.tmps → a.tmps.size = nt → a.defers = [] → ∀ (next : Act → World → Prop) (Q : Exit → Act → World → Prop),
    (∀ m' a' w', Step K.g m S.lk S.nx w m' S1.lk S1.nx w' → EnvOk m' env1 a'.tmps → a'.tmps.size = nt → a'.defers = [] → next a' w') → o.wp P a w next Q
/-- one that runs, or is passed by -/
def StepR (P : Program) (K : Known) (nt : Nat) (all : List Oper) (o : Oper) (env : Env) (S : St) (env1 : Env) (S1 : St) : Prop :=
  (awant all env o = some true ∧ OpR P K nt o env S env1 S1) ∨ (awant all env o = some false ∧ S1 = S ∧ ∀ (m : Map) (a : Act), EnvOk m env a.tmps → a.tmps.size = nt → EnvOk m env1 (a.put o.dst undef).tmps ∧ (a.put o.dst undef).tmps.size = nt)
def RegR (P : Program) (K : Known) (nt : Nat) (ops : Array Oper) (l : List Oper) (env : Env) (S : St) (env' : Env) (S' : St) : Prop :=
  S.nx ≤ S'.nx ∧ ∀ m a w, R S.lk m w → Fre m S.nx S'.nx → Gl K m → EnvOk m env a.tmps → a.tmps.size = nt → a.defers = [] → ∀ Q : Exit → Act → World → Prop,
    (∀ m' a' w', Step K.g m S.lk S.nx w m' S'.lk S'.nx w' → EnvOk m' env' a'.tmps → a'.tmps.size = nt → a'.defers = [] → Q .normal a' w') → wpList P ops Q l a w
/-- code -/
def SoundAt (P : Program) (K : Known) (c : Code) (nt : Nat) (env : Env) (S : St) (o : Out) (env' : Env) (S' : St) : Prop :=
  S.nx ≤ S'.nx ∧ ∀ m a w, R S.lk m w → Fre m S.nx S'.nx → Gl K m → EnvOk m env a.tmps → a.tmps.size = nt → a.defers = [] →
    ∀ Q : Exit → Act → World → Prop, (∀ m' a' w', Step K.g m S.lk S.nx w m' S'.lk S'.nx w' → EnvOk m' env' a'.tmps → a'.tmps.size = nt → a'.defers = [] → Q o.ex a' w') → c.wp P Q a w
def HOk (P : Program) (K : Known) (ih : H) : Prop := ∀ c nt kN kR n t S o1 e1 S1, ih c nt kN kR n t S = .out o1 e1 S1 →
  ∃ o n' t' S', ((o = .norm ∧ kN n' t' S' = .out o1 e1 S1) ∨ (o = .ret ∧ kR n' t' S' = .out o1 e1 S1)) ∧ SoundAt P K c nt ⟨n, t⟩ S o ⟨n', t'⟩ S'
def CopOk (P : Program) (K : Known) (nt : Nat) (all : List Oper) (o : Oper) (q : H → G → G) : Prop := ∀ ih k n t S o1 e1 S1, HOk P K ih → q ih k n t S = .out o1 e1 S1 →
  ∃ n' t' S', k n' t' S' = .out o1 e1 S1 ∧ StepR P K nt all o ⟨n, t⟩ S ⟨n', t'⟩ S'
def CopsOk (P : Program) (K : Known) (nt : Nat) (ops : Array Oper) (l : List Oper) (q : H → G → G) : Prop := ∀ ih k n t S o1 e1 S1, HOk P K ih → q ih k n t S = .out o1 e1 S1 →
  ∃ n' t' S', k n' t' S' = .out o1 e1 S1 ∧ RegR P K nt ops l ⟨n, t⟩ S ⟨n', t'⟩ S'
def sel (kN kR : G) (kE : Nat → G) : Out → G
  | .norm => kN
  | .ret => kR
  | .exit i => kE i
def CodeOk (P : Program) (K : Known) (nt : Nat) (c : Code) (q : C) : Prop := ∀ ih kN kR kE n t S o1 e1 S1, HOk P K ih → q ih kN kR kE n t S = .out o1 e1 S1 →
  ∃ o n' t' S', sel kN kR kE o n' t' S' = .out o1 e1 S1 ∧ SoundAt P K c nt ⟨n, t⟩ S o ⟨n', t'⟩ S'

/-! operands -/
theorem gP_ok : ∀ k d, ∃ g, gP k d = .mk g ∧ ∀ U, g U = U.get d
  | 0, d => ⟨_, rfl, fun U => rfl⟩
  | k + 1, d => by
    obtain ⟨g, hg, hg'⟩ := gP_ok k (d / 4)
    have hm : d % 4 = 0 ∨ d % 4 = 1 ∨ d % 4 = 2 ∨ d % 4 = 3 := by omega
    have hv : ∀ v : Option AV, (Bool.rec none v (Nat.beq d 0) : Option AV) = (T.vl v).get d := fun v => rfl
    rcases hm with m | m | m | m
    · refine ⟨fun U => T.rec (motive := fun _ => Option AV) (fun v => Bool.rec none v (Nat.beq d 0)) (fun a _ _ _ _ _ _ _ => g a) U, by unfold gP; rw [hg]; show (match d % 4 with | 0 => _ | 1 => _ | 2 => _ | _ => _) = _; rw [m]; rfl, fun U => ?_⟩
      cases U with
      | vl v => rfl
      | nd a b c e => rw [T.get_nd, if_pos m]; exact hg' a
    · have m0 : ¬ d % 4 = 0 := by omega
      refine ⟨fun U => T.rec (motive := fun _ => Option AV) (fun v => Bool.rec none v (Nat.beq d 0)) (fun _ b _ _ _ _ _ _ => g b) U, by unfold gP; rw [hg]; show (match d % 4 with | 0 => _ | 1 => _ | 2 => _ | _ => _) = _; rw [m]; rfl, fun U => ?_⟩
      cases U with
      | vl v => rfl
      | nd a b c e => rw [T.get_nd, if_neg m0, if_pos m]; exact hg' b
    · have m0 : ¬ d % 4 = 0 := by omega
      have m1 : ¬ d % 4 = 1 := by omega
      refine ⟨fun U => T.rec (motive := fun _ => Option AV) (fun v => Bool.rec none v (Nat.beq d 0)) (fun _ _ c _ _ _ _ _ => g c) U, by unfold gP; rw [hg]; show (match d % 4 with | 0 => _ | 1 => _ | 2 => _ | _ => _) = _; rw [m]; rfl, fun U => ?_⟩
      cases U with
      | vl v => rfl
      | nd a b c e => rw [T.get_nd, if_neg m0, if_neg m1, if_pos m]; exact hg' c
    · have m0 : ¬ d % 4 = 0 := by omega
      have m1 : ¬ d % 4 = 1 := by omega
      have m2 : ¬ d % 4 = 2 := by omega
      refine ⟨fun U => T.rec (motive := fun _ => Option AV) (fun v => Bool.rec none v (Nat.beq d 0)) (fun _ _ _ e _ _ _ _ => g e) U, by unfold gP; rw [hg]; show (match d % 4 with | 0 => _ | 1 => _ | 2 => _ | _ => _) = _; rw [m]; rfl, fun U => ?_⟩
      cases U with
      | vl v => rfl
      | nd a b c e => rw [T.get_nd, if_neg m0, if_neg m1, if_neg m2]; exact hg' e
theorem pP_ok : ∀ k d, ∃ p, pP k d = .mk p ∧ ∀ x U, p x U = U.put x d
  | 0, d => ⟨_, rfl, fun x U => rfl⟩
  | k + 1, d => by
    obtain ⟨g, hg, hg'⟩ := pP_ok k (d / 4)
    have hm : d % 4 = 0 ∨ d % 4 = 1 ∨ d % 4 = 2 ∨ d % 4 = 3 := by omega
    rcases hm with m | m | m | m
    · refine ⟨fun x U => T.rec (motive := fun _ => T AV) (fun v => Bool.rec (.vl v) (.vl x) (Nat.beq d 0)) (fun a b c e _ _ _ _ => .nd (g x a) b c e) U, by unfold pP; rw [hg]; show (match d % 4 with | 0 => _ | 1 => _ | 2 => _ | _ => _) = _; rw [m]; rfl, fun x U => ?_⟩
      cases U with
      | vl v => rfl
      | nd a b c e => rw [T.put_nd, if_pos m, ← hg']
    · have m0 : ¬ d % 4 = 0 := by omega
      refine ⟨fun x U => T.rec (motive := fun _ => T AV) (fun v => Bool.rec (.vl v) (.vl x) (Nat.beq d 0)) (fun a b c e _ _ _ _ => .nd a (g x b) c e) U, by unfold pP; rw [hg]; show (match d % 4 with | 0 => _ | 1 => _ | 2 => _ | _ => _) = _; rw [m]; rfl, fun x U => ?_⟩
      cases U with
      | vl v => rfl
      | nd a b c e => rw [T.put_nd, if_neg m0, if_pos m, ← hg']
    · have m0 : ¬ d % 4 = 0 := by omega
      have m1 : ¬ d % 4 = 1 := by omega
      refine ⟨fun x U => T.rec (motive := fun _ => T AV) (fun v => Bool.rec (.vl v) (.vl x) (Nat.beq d 0)) (fun a b c e _ _ _ _ => .nd a b (g x c) e) U, by unfold pP; rw [hg]; show (match d % 4 with | 0 => _ | 1 => _ | 2 => _ | _ => _) = _; rw [m]; rfl, fun x U => ?_⟩
      cases U with
      | vl v => rfl
      | nd a b c e => rw [T.put_nd, if_neg m0, if_neg m1, if_pos m, ← hg']
    · have m0 : ¬ d % 4 = 0 := by omega
      have m1 : ¬ d % 4 = 1 := by omega
      have m2 : ¬ d % 4 = 2 := by omega
      refine ⟨fun x U => T.rec (motive := fun _ => T AV) (fun v => Bool.rec (.vl v) (.vl x) (Nat.beq d 0)) (fun a b c e _ _ _ _ => .nd a b c (g x e)) U, by unfold pP; rw [hg]; show (match d % 4 with | 0 => _ | 1 => _ | 2 => _ | _ => _) = _; rw [m]; rfl, fun x U => ?_⟩
      cases U with
      | vl v => rfl
      | nd a b c e => rw [T.put_nd, if_neg m0, if_neg m1, if_neg m2, ← hg']
theorem opt_self (x : Option AV) : (Option.rec (motive := fun _ => Option AV) none (fun a => some a) x) = x := by cases x <;> rfl
theorem kcode_ok (x : Operand) (hx : ∀ t, x ≠ .tmp t) (n : Nat) : (Nat.add (kcode K x) 0) < 2 ^ 192 ∧ ∀ t, evo K ⟨n, t⟩ x = dec (Nat.add (kcode K x) 0) (Option.rec (motive := fun _ => Option AV) none (fun a => some a) (evoT x K enew)) := by
  have e : Nat.add (kcode K x) 0 = kcode K x := rfl
  have e2 : ∀ t, evo K ⟨n, t⟩ x = evoT x K enew := fun t => by cases x <;> first | rfl | exact absurd rfl (hx _)
  rw [e, opt_self]
  unfold kcode
  cases hv : evoT x K enew with
  | none => exact ⟨by decide, fun t => by rw [e2, hv]; rfl⟩
  | some v =>
    refine ⟨ccap_lt _, fun t => ?_⟩
    rw [e2, hv]
    show some v = dec (ccap (enc v)) (some v)
    rcases dec_ccap v (some v) with h | h
    · rw [h]; rfl
    · exact h.symm
theorem oc_ok (x : Operand) (nt : Nat) : ∃ f g, ocB K x = .mk f ∧ bxB K nt x = .mk g ∧ ∀ n, f n < 2 ^ 192 ∧ ∀ t, evo K ⟨n, t⟩ x = dec (f n) (g t) := by
  cases x with
  | tmp t =>
    obtain ⟨g, hg, hg'⟩ := gP_ok (dep nt) t
    exact ⟨_, g, rfl, hg, fun n => ⟨slot_lt n t, fun U => by rw [hg']; rfl⟩⟩
  | const v => exact ⟨_, _, rfl, rfl, fun n => kcode_ok (.const v) (fun _ h => by cases h) n⟩
  | global v => exact ⟨_, _, rfl, rfl, fun n => kcode_ok (.global v) (fun _ h => by cases h) n⟩
  | func v => exact ⟨_, _, rfl, rfl, fun n => kcode_ok (.func v) (fun _ h => by cases h) n⟩

theorem reg_nil {nt : Nat} {ops : Array Oper} {env : Env} {S : St} : RegR P K nt ops [] env S env S :=
  ⟨Nat.le_refl _, fun m a w hR hf hG hE hn hd Q hq => hq m a w (Step.refl hR) hE hn hd⟩
theorem reg_cons {nt : Nat} {ops : Array Oper} {o : Oper} {l : List Oper} {env env1 env' : Env} {S S1 S' : St} (h1 : StepR P K nt ops.toList o env S env1 S1) (h2 : RegR P K nt ops l env1 S1 env' S') : RegR P K nt ops (o :: l) env S env' S' := by
  obtain ⟨l2, q2⟩ := h2
  rcases h1 with ⟨hw, l1, q1⟩ | ⟨hw, rfl, q1⟩
  · refine ⟨Nat.le_trans l1 l2, fun m a w hR hf hG hE hn hd Q hq => ?_⟩
    simp only [wpList, awant_ok hE hw, if_true]
    refine .inl (q1 m a w hR (hf.le l2) hG hE hn hd _ _ fun m1 a1 w1 st hE1 hn1 hd1 => ?_)
    exact q2 m1 a1 w1 st.rel (hf.step st) (hG.ext st.ext) hE1 hn1 hd1 Q fun m' a' w' st' => hq m' a' w' (st.trans st')
  · refine ⟨l2, fun m a w hR hf hG hE hn hd Q hq => ?_⟩
    simp only [wpList, awant_ok hE hw, Bool.false_eq_true, if_false]
    obtain ⟨e1, e2⟩ := q1 m a hE hn
    exact q2 m _ w hR hf hG e1 e2 (by rw [put_defers]; exact hd) Q hq
theorem cops_ok {nt : Nat} (hcop : ∀ all o, ∃ q, cop P K nt all o = .mk q ∧ CopOk P K nt all o q) (ops : Array Oper) : ∀ l : List Oper, ∃ q, cops P K nt ops.toList l = .mk q ∧ CopsOk P K nt ops l q
  | [] => ⟨_, rfl, fun ih k n t S o1 e1 S1 _ h => ⟨n, t, S, h, reg_nil⟩⟩
  | o :: l => by
    obtain ⟨f, hf, hf'⟩ := hcop ops.toList o
    obtain ⟨g, hg, hg'⟩ := cops_ok hcop ops l
    refine ⟨fun ih k n t S => f ih (g ih k) n t S, by unfold cops; rw [hf, hg]; rfl, fun ih k n t S o1 e1 S1 hi h => ?_⟩
    obtain ⟨n1, t1, S2, h1, h2⟩ := hf' ih (g ih k) n t S o1 e1 S1 hi h
    obtain ⟨n2, t2, S3, h3, h4⟩ := hg' ih k n1 t1 S2 o1 e1 S1 hi h1
    exact ⟨n2, t2, S3, h3, reg_cons h2 h4⟩
theorem dih_ok {ih : H} (hi : HOk P K ih) : Sound P K (dih ih) := by
  intro c nt env S o env' S' h
  unfold dih at h
  cases hr : ih c nt (fun n t S => .out .norm ⟨n, t⟩ S) (fun n t S => .out .ret ⟨n, t⟩ S) env.n env.t S with
  | bad l => rw [hr] at h; cases h
  | out o1 e1 S1 =>
    rw [hr] at h
    cases h
    obtain ⟨o2, n', t', S2, h1, h2⟩ := hi _ _ _ _ _ _ _ _ _ _ hr
    rcases h1 with ⟨rfl, h1⟩ | ⟨rfl, h1⟩
    · cases h1; exact h2
    · cases h1; exact h2
theorem done_eq (k : G) (n : Nat) (t : T AV) (S : St) : done k n t S = k n t S := by
  cases t <;> rfl
/-! code by code -/
theorem sound_loop_more {b : Code} {nt : Nat} {env env1 env' : Env} {S S1 S' : St} {o : Out} (h1 : SoundAt P K b nt env S .norm env1 S1) (h2 : SoundAt P K (.loop b) nt env1 S1 o env' S') : SoundAt P K (.loop b) nt env S o env' S' := by
  obtain ⟨l1, q1⟩ := h1
  obtain ⟨l2, q2⟩ := h2
  refine ⟨Nat.le_trans l1 l2, fun m a w hR hf hG hE hn hd Q hq => ?_⟩
  refine wp_mono (wp_unroll (Q := fun e a w => Q e a w ∧ (e = .normal ∨ (∃ id, e = .exit id) ∨ e = .ret)) (fun e a w hq => hq.2) ?_) (fun e a w hq => hq.1)
  refine q1 m a w hR (hf.le l2) hG hE hn hd _ fun m1 a1 w1 st hE1 hn1 hd1 => ?_
  refine q2 m1 a1 w1 st.rel (hf.step st) (hG.ext st.ext) hE1 hn1 hd1 _ fun m' a' w' st' hE' hn' hd' => ⟨hq m' a' w' (st.trans st') hE' hn' hd', ?_⟩
  cases o with
  | norm => exact .inl rfl
  | exit i => exact .inr (.inl ⟨i, rfl⟩)
  | ret => exact .inr (.inr rfl)
theorem sound_loop_end {b : Code} {nt : Nat} {env env' : Env} {S S' : St} {o : Out} (ho : o ≠ .norm) (h1 : SoundAt P K b nt env S o env' S') : SoundAt P K (.loop b) nt env S o env' S' := by
  obtain ⟨l1, q1⟩ := h1
  refine ⟨l1, fun m a w hR hf hG hE hn hd Q hq => ?_⟩
  refine wp_mono (wp_unroll (Q := fun e a w => Q e a w ∧ (e = .normal ∨ (∃ id, e = .exit id) ∨ e = .ret)) (fun e a w hq => hq.2) ?_) (fun e a w hq => hq.1)
  refine q1 m a w hR hf hG hE hn hd _ fun m1 a1 w1 st hE1 hn1 hd1 => ?_
  have := hq m1 a1 w1 st hE1 hn1 hd1
  cases o with
  | norm => exact absurd rfl ho
  | exit i => exact ⟨this, .inr (.inl ⟨i, rfl⟩)⟩
  | ret => exact ⟨this, .inr (.inr rfl)⟩
theorem cloop_ok {b : Code} {nt : Nat} {q : C} (hq : CodeOk P K nt b q) {ih : H} (hi : HOk P K ih) (kN kR : G) (kE : Nat → G) : ∀ (r : Nat) n t S o1 e1 S1, cloop q ih kR kE r n t S = .out o1 e1 S1 →
    ∃ o n' t' S', sel kN kR kE o n' t' S' = .out o1 e1 S1 ∧ SoundAt P K (.loop b) nt ⟨n, t⟩ S o ⟨n', t'⟩ S'
  | 0, n, t, S, o1, e1, S1, h => by cases h
  | r + 1, n, t, S, o1, e1, S1, h => by
    have h : q ih (done (cloop q ih kR kE r)) kR kE n t S = .out o1 e1 S1 := h
    obtain ⟨o, n', t', S', h1, h2⟩ := hq _ _ _ _ _ _ _ _ _ _ hi h
    cases o with
    | norm =>
      have h1 : done (cloop q ih kR kE r) n' t' S' = .out o1 e1 S1 := h1
      rw [done_eq] at h1
      obtain ⟨o2, n2, t2, S2, h3, h4⟩ := cloop_ok hq hi kN kR kE r n' t' S' o1 e1 S1 h1
      exact ⟨o2, n2, t2, S2, h3, sound_loop_more h2 h4⟩
    | exit i => exact ⟨.exit i, n', t', S', h1, sound_loop_end (fun h => by cases h) h2⟩
    | ret => exact ⟨.ret, n', t', S', h1, sound_loop_end (fun h => by cases h) h2⟩
theorem sound_seq {x y : Code} {nt : Nat} {env env1 env' : Env} {S S1 S' : St} {o : Out} (h1 : SoundAt P K x nt env S .norm env1 S1) (h2 : SoundAt P K y nt env1 S1 o env' S') : SoundAt P K (.seq x y) nt env S o env' S' := by
  obtain ⟨l1, q1⟩ := h1
  obtain ⟨l2, q2⟩ := h2
  refine ⟨Nat.le_trans l1 l2, fun m a w hR hf hG hE hn hd Q hq => wp_seq ?_⟩
  refine q1 m a w hR (hf.le l2) hG hE hn hd _ fun m1 a1 w1 st hE1 hn1 hd1 => ?_
  exact q2 m1 a1 w1 st.rel (hf.step st) (hG.ext st.ext) hE1 hn1 hd1 Q fun m' a' w' st' => hq m' a' w' (st.trans st')
theorem sound_seq_end {x y : Code} {nt : Nat} {env env' : Env} {S S' : St} {o : Out} (ho : o ≠ .norm) (h1 : SoundAt P K x nt env S o env' S') : SoundAt P K (.seq x y) nt env S o env' S' := by
  obtain ⟨l1, q1⟩ := h1
  refine ⟨l1, fun m a w hR hf hG hE hn hd Q hq => wp_seq ?_⟩
  refine q1 m a w hR hf hG hE hn hd _ fun m1 a1 w1 st hE1 hn1 hd1 => ?_
  have := hq m1 a1 w1 st hE1 hn1 hd1
  cases o with
  | norm => exact absurd rfl ho
  | exit i => exact this
  | ret => exact this
theorem sound_block {id : Nat} {b : Code} {nt : Nat} {env env' : Env} {S S' : St} {o : Out} (h1 : SoundAt P K b nt env S o env' S') : SoundAt P K (.block id b) nt env S (match o with
    | .exit i => if i = id then .norm else .exit i
    | o => o) env' S' := by
  obtain ⟨l1, q1⟩ := h1
  refine ⟨l1, fun m a w hR hf hG hE hn hd Q hq => wp_block ?_⟩
  refine q1 m a w hR hf hG hE hn hd _ fun m1 a1 w1 st hE1 hn1 hd1 => ?_
  have := hq m1 a1 w1 st hE1 hn1 hd1
  cases o with
  | norm => exact this
  | ret => exact this
  | exit i =>
    simp only at this
    by_cases hi : i = id
    · rw [if_pos hi] at this
      simp only [Out.ex, Out.exit', Exit.inBlock, hi, if_true]
      exact this
    · rw [if_neg hi] at this
      simp only [Out.ex, Out.exit', Exit.inBlock, hi, if_false]
      exact this
theorem cc_ok (hK : KnownOk P K) {draw : Draw} (hD : DrawOk P K draw) (hcop : ∀ nt all o, ∃ q, cop P K nt all o = .mk q ∧ CopOk P K nt all o q) {nt : Nat} : ∀ c : Code, ∃ q, cc P K draw nt c = .mk q ∧ CodeOk P K nt c q
  | .skip => ⟨_, rfl, fun ih kN kR kE n t S o1 e1 S1 _ h => ⟨.norm, n, t, S, h, Nat.le_refl _, fun m a w hR hf hG hE hn hd Q hq => wp_skip (hq m a w (Step.refl hR) hE hn hd)⟩⟩
  | .region id ops true => ⟨_, rfl, fun ih kN kR kE n t S o1 e1 S1 hi h => by
      have h : cdraw draw nt id ops ih kN n t S = .out o1 e1 S1 := h
      unfold cdraw at h
      cases hr : draw (dih ih) ops nt id ⟨n, t⟩ S with
      | bad l => rw [hr] at h; cases h
      | ok e S' =>
        rw [hr] at h
        obtain ⟨n', t'⟩ := e
        exact ⟨.norm, n', t', S', h, hD _ (dih_ok hi) _ _ _ _ _ _ _ hr⟩⟩
  | .region id ops false => by
    obtain ⟨f, hf, hf'⟩ := cops_ok (hcop nt) ops ops.toList
    refine ⟨fun ih kN _ _ n t S => f ih kN n t S, by unfold cc; rw [hf]; rfl, fun ih kN kR kE n t S o1 e1 S1 hi h => ?_⟩
    obtain ⟨n', t', S', h1, l1, q1⟩ := hf' _ _ _ _ _ _ _ _ hi h
    exact ⟨.norm, n', t', S', h1, l1, fun m a w hR hf hG hE hn hd Q hq => wp_region_list (q1 m a w hR hf hG hE hn hd Q hq)⟩
  | .seq a b => by
    obtain ⟨f, hf, hf'⟩ := cc_ok hK hD hcop a
    obtain ⟨g, hg, hg'⟩ := cc_ok hK hD hcop b
    refine ⟨fun ih kN kR kE n t S => f ih (g ih kN kR kE) kR kE n t S, by unfold cc; rw [hf, hg]; rfl, fun ih kN kR kE n t S o1 e1 S1 hi h => ?_⟩
    obtain ⟨o, n1, t1, S2, h1, h2⟩ := hf' _ _ _ _ _ _ _ _ _ _ hi h
    cases o with
    | norm =>
      obtain ⟨o, n3, t3, S3, h3, h4⟩ := hg' _ _ _ _ _ _ _ _ _ _ hi h1
      exact ⟨o, n3, t3, S3, h3, sound_seq h2 h4⟩
    | exit i => exact ⟨.exit i, n1, t1, S2, h1, sound_seq_end (fun h => by cases h) h2⟩
    | ret => exact ⟨.ret, n1, t1, S2, h1, sound_seq_end (fun h => by cases h) h2⟩
  | .cond x a b => by
    obtain ⟨h, gx, hx, _, hx'⟩ := oc_ok (K := K) x nt
    obtain ⟨f, hf, hf'⟩ := cc_ok hK hD hcop a
    obtain ⟨g, hg, hg'⟩ := cc_ok hK hD hcop b
    refine ⟨fun ih kN kR kE n t S => Bool.rec (Bool.rec (.bad [888]) (g ih kN kR kE n t S) (Nat.beq (h n) 2)) (f ih kN kR kE n t S) (Nat.beq (h n) 34), by unfold cc; rw [hx, hf, hg]; rfl, fun ih kN kR kE n t S o1 e1 S1 hi hh => ?_⟩
    obtain ⟨_, hev⟩ := hx' n
    have hh : (Bool.rec (Bool.rec (.bad [888]) (g ih kN kR kE n t S) (Nat.beq (h n) 2)) (f ih kN kR kE n t S) (Nat.beq (h n) 34) : Fin) = .out o1 e1 S1 := hh
    cases hb : Nat.beq (h n) 34 with
    | true =>
      rw [hb] at hh
      rw [Nat.beq_eq] at hb
      obtain ⟨o, n1, t1, S2, h1, l1, q1⟩ := hf' _ _ _ _ _ _ _ _ _ _ hi hh
      refine ⟨o, n1, t1, S2, h1, l1, fun m a w hR hf hG hE hn hd Q hq => wp_cond_true ?_ (q1 m a w hR hf hG hE hn hd Q hq)⟩
      have h3 := hev t
      rw [hb] at h3
      have := evo_ok hG hE x (.b true) (h3.trans rfl)
      simpa [cvo] using this.symm
    | false =>
      rw [hb] at hh
      cases hb2 : Nat.beq (h n) 2 with
      | false => rw [hb2] at hh; cases hh
      | true =>
      rw [hb2] at hh
      rw [Nat.beq_eq] at hb2
      obtain ⟨o, n1, t1, S2, h1, l1, q1⟩ := hg' _ _ _ _ _ _ _ _ _ _ hi hh
      refine ⟨o, n1, t1, S2, h1, l1, fun m a w hR hf hG hE hn hd Q hq => wp_cond_false ?_ (q1 m a w hR hf hG hE hn hd Q hq)⟩
      have h3 := hev t
      rw [hb2] at h3
      have := evo_ok hG hE x (.b false) (h3.trans rfl)
      simpa [cvo] using this.symm
  | .block id b => by
    obtain ⟨f, hf, hf'⟩ := cc_ok hK hD hcop b
    refine ⟨fun ih kN kR kE n t S => f ih kN kR (fun i => Bool.rec (kE i) kN (Nat.beq i id)) n t S, by unfold cc; rw [hf]; rfl, fun ih kN kR kE n t S o1 e1 S1 hi h => ?_⟩
    obtain ⟨o, n1, t1, S2, h1, h2⟩ := hf' _ _ _ _ _ _ _ _ _ _ hi h
    refine ⟨_, n1, t1, S2, ?_, sound_block h2⟩
    cases o with
    | norm => exact h1
    | ret => exact h1
    | exit i =>
      have h1 : (Bool.rec (motive := fun _ => G) (kE i) kN (Nat.beq i id)) n1 t1 S2 = .out o1 e1 S1 := h1
      simp only
      by_cases hi : i = id
      · rw [if_pos hi]; rw [bq hi] at h1; exact h1
      · rw [if_neg hi]; rw [bqn hi] at h1; exact h1
  | .loop b => by
    obtain ⟨f, hf, hf'⟩ := cc_ok hK hD hcop b
    exact ⟨fun ih kN kR kE n t S => cloop f ih kR kE rounds n t S, by unfold cc; rw [hf]; rfl, fun ih kN kR kE n t S o1 e1 S1 hi h => cloop_ok hf' hi kN kR kE rounds n t S o1 e1 S1 h⟩
  | .exit id => ⟨_, rfl, fun ih kN kR kE n t S o1 e1 S1 _ h => ⟨.exit id, n, t, S, h, Nat.le_refl _, fun m a w hR hf hG hE hn hd Q hq => wp_exit (hq m a w (Step.refl hR) hE hn hd)⟩⟩
  | .ret => ⟨_, rfl, fun ih kN kR kE n t S o1 e1 S1 _ h => ⟨.ret, n, t, S, h, Nat.le_refl _, fun m a w hR hf hG hE hn hd Q hq => wp_ret (hq m a w (Step.refl hR) hE hn hd)⟩⟩
  | .rangeFunc _ _ _ _ => ⟨_, rfl, fun ih kN kR kE n t S o1 e1 S1 _ h => by cases h⟩
  | .scope _ => ⟨_, rfl, fun ih kN kR kE n t S o1 e1 S1 _ h => by cases h⟩
  | .label _ => ⟨_, rfl, fun ih kN kR kE n t S o1 e1 S1 _ h => by cases h⟩
  | .goto _ => ⟨_, rfl, fun ih kN kR kE n t S o1 e1 S1 _ h => by cases h⟩
  | .refuse _ => ⟨_, rfl, fun ih kN kR kE n t S o1 e1 S1 _ h => by cases h⟩
theorem hN_ok (hK : KnownOk P K) {draw : Draw} (hD : DrawOk P K draw) (hcop : ∀ nt all o, ∃ q, cop P K nt all o = .mk q ∧ CopOk P K nt all o q) : ∀ fuel, HOk P K (hN P K draw fuel)
  | 0 => fun c nt kN kR n t S o1 e1 S1 h => by cases h
  | fuel + 1 => fun c nt kN kR n t S o1 e1 S1 h => by
    have h : unB (cc P K draw nt c) (fun q => q (hN P K draw fuel) kN kR (fun i _ _ _ => .bad [997, i]) n t S) = .out o1 e1 S1 := h
    obtain ⟨q, hq, hq'⟩ := cc_ok hK hD hcop (nt := nt) c
    rw [hq] at h
    obtain ⟨o, n1, t1, S2, h1, h2⟩ := hq' _ _ _ _ _ _ _ _ _ _ (hN_ok hK hD hcop fuel) h
    cases o with
    | norm => exact ⟨_, n1, t1, S2, .inl ⟨rfl, h1⟩, h2⟩
    | ret => exact ⟨_, n1, t1, S2, .inr ⟨rfl, h1⟩, h2⟩
    | exit i => cases h1
end
end Am
