/- A machine for closed runs: operations that were turned into functions are sound: moves, calls, guards. No program in sight. -/
import Derived.Test.YtbeageacgalhiaaGreatDoorAmCb
set_option linter.unusedVariables false
set_option linter.unusedSimpArgs false
namespace Am
open Go
noncomputable section
variable {P : Program} {K : Known}

def Cop1Ok (P : Program) (K : Known) (nt : Nat) (dst : Option Tmp) (op : Op) (q : H → G → G) : Prop := ∀ ih k n t S o1 e1 S1, HOk P K ih → q ih k n t S = .out o1 e1 S1 →
  ∃ n' t' S', k n' t' S' = .out o1 e1 S1 ∧ ∀ o : Oper, o.dst = dst → o.op = op → OpR P K nt o ⟨n, t⟩ S ⟨n', t'⟩ S'
/-- what an operation gives -/
def OpV (P : Program) (K : Known) (o : Oper) (ρ : Rho) (S : St) (r : AV) (S1 : St) : Prop :=
  S.nx ≤ S1.nx ∧ ∀ m a w, R S.lk m w → Fre m S.nx S1.nx → Gl K m → RhoOk m ρ a.eval → ∀ (next : Act → World → Prop) (Q : Exit → Act → World → Prop),
    (∀ m' v w', Step K.g m S.lk S.nx w m' S1.lk S1.nx w' → cvo m' r = some v → next (a.put o.dst v) w') → o.wp P a w next Q
theorem opR_upd {nt : Nat} {o : Oper} {env env1 : Env} {S S1 : St} {v : AV} (h : OpV P K o (evo K env) S v S1) (hu : Upd nt env o.dst v env1) : OpR P K nt o env S env1 S1 := by
  obtain ⟨l1, q1⟩ := h
  refine ⟨l1, fun m a w hR hf hG hE hn hd next Q hq => q1 m a w hR hf hG (evo_ok hG hE) _ _ fun m1 u w1 st hv => ?_⟩
  obtain ⟨e1, e2⟩ := upd_ok (u := u) hu (hE.ext st.ext) hn hv
  exact hq m1 _ w1 st e1 e2 (by rw [put_defers]; exact hd)
theorem aft_out {x : Option Env} {k : G} {S : St} {o1 : Out} {e1 : Env} {S1 : St} (h : aft x k S = .out o1 e1 S1) : ∃ n t, x = some ⟨n, t⟩ ∧ k n t S = .out o1 e1 S1 := by
  cases x with
  | none => cases h
  | some e => obtain ⟨n, t⟩ := e; exact ⟨n, t, rfl, h⟩
theorem noIh_ok : Sound P K noIh := fun _ _ _ _ _ _ _ h => by cases h
theorem opV_aop (hK : KnownOk P K) {ih : IH} (hS : Sound P K ih) {S S1 : St} {ρ : Rho} {o : Oper} {r : AV} (h : aop P K ih S ρ o.op = .ok r S1) : OpV P K o ρ S r S1 := aop_ok hK hS h
theorem opV_aop0 (hK : KnownOk P K) {ih : IH} (hS : Sound P K ih) {S S1 : St} {ρ : Rho} {o : Oper} {r : AV} (h : aop0 P K ih S ρ o.op = .ok r S1) : OpV P K o ρ S r S1 := aop0_ok hK hS h
theorem mid_ok (hK : KnownOk P K) (nt : Nat) (dst : Option Tmp) (op : Op) : Cop1Ok P K nt dst op (mid P K nt dst op) := by
  intro ih k n t S o1 e1 S1 hi h
  unfold mid at h
  cases ha : aop P K noIh S (evo K ⟨n, t⟩) op with
  | bad l => rw [ha] at h; cases h
  | ok v S' =>
    rw [ha] at h
    have h : aft (aput nt ⟨n, t⟩ dst v) k S' = .out o1 e1 S1 := h
    obtain ⟨n', t', h1, h2⟩ := aft_out h
    refine ⟨n', t', S', h2, fun o ho1 ho2 => ?_⟩
    subst ho1 ho2
    exact opR_upd (opV_aop hK noIh_ok ha) (aput_upd h1)
/-! places -/
theorem upd_place {nt n d c : Nat} {t : T AV} {x : Option AV} {v : AV} (hd : d < nt) (hc : c < 2 ^ 192) (hv : ∀ y, dec c x = some y → y = v) : Upd nt ⟨n, t⟩ (some d) v ⟨pset n d c, tcap c x t d⟩ :=
  ⟨hd, fun k a hk => by
    rcases eget_place hc hk with ⟨h1, h2⟩ | h1
    · exact .inl ⟨h1, hv a h2⟩
    · exact .inr h1⟩
theorem upd_code {nt n d c : Nat} {t : T AV} {v : AV} (hd : d < nt) (hc : c < 2 ^ 192) (hv : ∀ bx, dec c bx = some v) : Upd nt ⟨n, t⟩ (some d) v ⟨pset n d c, t⟩ :=
  ⟨hd, fun k a hk => eget_pset hc hv hk⟩
theorem env_at {m : Map} {n d c : Nat} {t : T AV} {x : Option AV} {tmps : Array Value} {u : Value} (hE : EnvOk m ⟨n, t⟩ tmps) (hc : c < 2 ^ 192) (hu : tmps[d]? = some u) (hv : ∀ y, dec c x = some y → cvo m y = some u) : EnvOk m ⟨pset n d c, tcap c x t d⟩ tmps := by
  intro k a hk
  rcases eget_place hc hk with ⟨rfl, h2⟩ | ⟨_, h1⟩
  · exact ⟨u, hu, hv a h2⟩
  · exact hE k a h1
theorem env_place {m : Map} {nt n d c : Nat} {t : T AV} {x : Option AV} {a : Act} {u : Value} (hE : EnvOk m ⟨n, t⟩ a.tmps) (hn : a.tmps.size = nt) (hd : d < nt) (hc : c < 2 ^ 192) (hv : ∀ y, dec c x = some y → cvo m y = some u) :
    EnvOk m ⟨pset n d c, tcap c x t d⟩ (a.put (some d) u).tmps ∧ (a.put (some d) u).tmps.size = nt := by
  refine ⟨fun k b hk => ?_, by simp [Act.put, hn]⟩
  rcases eget_place hc hk with ⟨rfl, h2⟩ | ⟨hne, h1⟩
  · refine ⟨u, by simp [Act.put, hn, hd], hv b h2⟩
  · obtain ⟨v, h3, h4⟩ := hE k b h1
    refine ⟨v, ?_, h4⟩
    simp only [Act.put]; rw [Array.getElem?_setIfInBounds_ne (fun e => hne e.symm)]; exact h3
/-- whatever a place holds, it may be put elsewhere -/
theorem nz_place {n d c : Nat} {t : T AV} {x : Option AV} (hc : c < 2 ^ 192) {k : Nat} {a : AV} (h : eget ⟨pset n d (nz c), t⟩ k = some a) : (k = d ∧ dec c x = some a) ∨ (k ≠ d ∧ eget ⟨n, t⟩ k = some a) := by
  have e : nz c = if c = 1 then 0 else c := by
    show c * (1 - (2 - c)) = _
    by_cases h : c = 1
    · subst h; rfl
    · rw [if_neg h]
      rcases Nat.eq_zero_or_pos c with h0 | h0
      · subst h0; rfl
      · have : 1 - (2 - c) = 1 := by omega
        rw [this, Nat.mul_one]
  unfold eget at h
  simp only at h
  rw [slot_pset (by rw [e]; split; decide; exact hc)] at h
  by_cases hk : k = d
  · rw [if_pos hk, e] at h
    split at h
    · cases h
    · rename_i h1
      exact .inl ⟨hk, by rw [dec_box x (t.get k) h1]; exact h⟩
  · rw [if_neg hk] at h
    exact .inr ⟨hk, h⟩
theorem wp_value {o : Oper} {a : Act} {w w' : World} {v : Value} {next : Act → World → Prop} {Q : Exit → Act → World → Prop} (h : (execOp a.eval o).run P w = .ok (.value v) w') (hn : next (a.put o.dst v) w') : o.wp P a w next Q := by
  unfold Oper.wp; rw [h]; exact hn
theorem run_move {o : Oper} {ev : Operand → Value} {x : Operand} {w : World} (h : o.op = .move x ∨ o.op = .assign x) : (execOp ev o).run P w = .ok (.value (ev x)) w := by
  obtain ⟨dst, op, ty, pos, af, g⟩ := o
  rcases h with h | h <;> simp only at h <;> subst h <;> rfl
/-- a move -/
theorem move_opR {nt d : Nat} {o : Oper} {x : Operand} {n : Nat} {t : T AV} {S : St} {e1 : Env} (ho : o.op = .move x ∨ o.op = .assign x) (hdst : o.dst = some d) (hd : d < nt)
    (he : ∀ k a, eget e1 k = some a → (k = d ∧ evo K ⟨n, t⟩ x = some a) ∨ (k ≠ d ∧ eget ⟨n, t⟩ k = some a)) : OpR P K nt o ⟨n, t⟩ S e1 S := by
  refine ⟨Nat.le_refl _, fun m a w hR hf hG hE hn hdf next Q hq => wp_value (run_move ho) ?_⟩
  refine hq m _ w (Step.refl hR) (fun k b hk => ?_) (by rw [hdst]; simp [Act.put, hn]) (by rw [put_defers]; exact hdf)
  rw [hdst]
  rcases he k b hk with ⟨rfl, h2⟩ | ⟨hne, h1⟩
  · exact ⟨a.eval x, by simp [Act.put, hn, hd], evo_ok hG hE x b h2⟩
  · obtain ⟨v, h3, h4⟩ := hE k b h1
    refine ⟨v, ?_, h4⟩
    simp only [Act.put]; rw [Array.getElem?_setIfInBounds_ne (fun e => hne e.symm)]; exact h3
def FastOk (P : Program) (K : Known) (nt : Nat) (dst : Option Tmp) (op : Op) : Fast → Prop
  | .no => True
  | .act q => ∀ m, Cop1Ok P K nt dst op m → Cop1Ok P K nt dst op (q m)
  | .yes v r => ∀ n t S, v n t S = 0 → r n t S < 2 ^ 192 ∧ ∃ a, (∀ bx, dec (r n t S) bx = some a) ∧ ∀ ih, aop0 P K ih S (evo K ⟨n, t⟩) op = .ok a S
theorem inD_ok {nt : Nat} {dst : Option Tmp} {op : Op} {f : Tmp → (Option AV → T AV → T AV) → Fast} (h : ∀ d p, dst = some d → d < nt → (∀ x U, p x U = U.put x d) → FastOk P K nt dst op (f d p)) : FastOk P K nt dst op (inD nt dst f) := by
  unfold inD
  cases dst with
  | none => trivial
  | some d =>
    simp only
    rw [cnd_eq]
    split
    · rename_i hb
      rw [blt_iff] at hb
      obtain ⟨p, hp, hp'⟩ := pP_ok (dep nt) d
      rw [hp]
      exact h d p rfl hb hp'
    · trivial
theorem tcap_eq {p : Option AV → T AV → T AV} {d c : Nat} (hp : ∀ x U, p x U = U.put x d) (x : Option AV) (U : T AV) : (Bool.rec U (p x U) (Nat.beq c 1) : T AV) = tcap c x U d := by rw [hp]; rfl
theorem fMove_ok {nt : Nat} {ty : TypeId} {dst : Option Tmp} {op : Op} {x : Operand} (ho : op = .move x ∨ op = .assign x) {f : Nat → Nat} {g : T AV → Option AV} (hfg : ∀ n, f n < 2 ^ 192 ∧ ∀ t, evo K ⟨n, t⟩ x = dec (f n) (g t)) : FastOk P K nt dst op (fMove P nt ty dst f g) := by
  unfold fMove
  refine inD_ok fun d p hdst hd hp => ?_
  rw [cnd_eq]
  split
  · intro m _ ih k n t S o1 e1 S1 hi h
    refine ⟨pset n d (nz (f n)), t, S, h, fun o ho1 ho2 => ?_⟩
    refine move_opR (x := x) (by rw [ho2]; exact ho) (by rw [ho1]; exact hdst) hd fun j a hj => ?_
    rw [(hfg n).2 t]
    exact nz_place (hfg n).1 hj
  · intro m _ ih k n t S o1 e1 S1 hi h
    refine ⟨pset n d (f n), tcap (f n) (g t) t d, S, by rw [← tcap_eq hp]; exact h, fun o ho1 ho2 => ?_⟩
    refine move_opR (x := x) (by rw [ho2]; exact ho) (by rw [ho1]; exact hdst) hd fun j a hj => ?_
    rw [(hfg n).2 t]
    exact eget_place (hfg n).1 hj
/-! calls -/
theorem crun_ok (hK : KnownOk P K) {ih : H} (hi : HOk P K ih) {S : St} {f : FuncId} {as : List AV} {kv : AV → St → Fin} {o1 : Out} {e1 : Env} {S1 : St} (h : crun P K ih S f as kv = .out o1 e1 S1) :
    ∃ v S', kv v S' = .out o1 e1 S1 ∧ S.nx ≤ S'.nx ∧ ∀ m w args, R S.lk m w → Fre m S.nx S'.nx → Gl K m → cvs m as = some args →
      ((∀ args w, (callFunc f args).run P w = .ok (.enter f args) w) ∧ Calls P f args.toArray w (Got K m S w S' v)) ∨ (∃ m' w' u, (callFunc f args.toArray).run P w = .ok (.value u) w' ∧ cvo m' v = some u ∧ Step K.g m S.lk S.nx w m' S'.lk S'.nx w') := by
  unfold crun at h
  rw [cnd_eq] at h
  split at h
  · rename_i he
    cases hfn : fnc P f with
    | none => rw [hfn] at h; cases h
    | some fn =>
      rw [hfn] at h
      cases hb : fn.body with
      | none => simp only [hb] at h; cases h
      | some c =>
        simp only [hb] at h
        rw [cnd_eq] at h
        split at h
        · rename_i hl
          obtain ⟨n0, t0, he0⟩ : ∃ n0 t0, ienv as 0 enew = ⟨n0, t0⟩ := ⟨_, _, rfl⟩
          rw [he0] at h
          have h : ih c fn.ntmps (rk P K fn kv) (rk P K fn kv) n0 t0 S = .out o1 e1 S1 := h
          obtain ⟨o, n', t', S', h1, h2⟩ := hi _ _ _ _ _ _ _ _ _ _ h
          have h3 : rk P K fn kv n' t' S' = .out o1 e1 S1 := by rcases h1 with ⟨_, h1⟩ | ⟨_, h1⟩ <;> exact h1
          have ho : o = .norm ∨ o = .ret := by rcases h1 with ⟨h1, _⟩ | ⟨h1, _⟩; exact .inl h1; exact .inr h1
          unfold rk at h3
          cases hv : ares P K ⟨n', t'⟩ S' fn.results.toList with
          | none => rw [hv] at h3; cases h3
          | some v =>
            rw [hv] at h3
            -- a machine that knows this body alone
            let ihx : IH := fun c' nt' env' S0 => @ite _ (c' = c ∧ nt' = fn.ntmps ∧ env' = ⟨n0, t0⟩ ∧ S0 = S) (Classical.propDecidable _) (.ok o ⟨n', t'⟩ S') (.bad [])
            have hx : Sound P K ihx := by
              intro c' nt' env' S0 o2 e2 S2 hh
              simp only [ihx] at hh
              split at hh
              · rename_i hc
                obtain ⟨rfl, rfl, rfl, rfl⟩ := hc
                cases hh
                exact h2
              · cases hh
            have hcall : acallf P K ihx S f as = .ok v S' := by
              unfold acallf
              have hix : ihx c fn.ntmps (ienv as 0 enew) S = .ok o ⟨n', t'⟩ S' := by simp only [ihx, he0, and_self, if_true]
              rw [he, cond_true, hfn]
              simp only [hb, hl, cond_true, hix]
              rcases ho with rfl | rfl <;> simp only [hv]
            obtain ⟨q1, q2⟩ := acallf_ok hK hx hcall
            exact ⟨v, S', h3, q1, q2⟩
        · cases h
  · rename_i he
    cases hx : aext P K S f as with
    | none => rw [hx] at h; cases h
    | some p =>
      obtain ⟨v, S'⟩ := p
      rw [hx] at h
      have h : kv v S' = .out o1 e1 S1 := h
      have hcall : acallf P K noIh S f as = .ok v S' := by
        unfold acallf
        rw [Bool.eq_false_iff.2 he, cond_false, hx]
      obtain ⟨q1, q2⟩ := acallf_ok hK noIh_ok hcall
      exact ⟨v, S', h, q1, q2⟩
theorem gcall_ok (hK : KnownOk P K) (nt : Nat) (dst : Option Tmp) (op : Op) : Cop1Ok P K nt dst op (gcall P K nt dst op) := by
  intro ih k n t S o1 e1 S1 hi h
  unfold gcall at h
  cases hc : acallee (evo K ⟨n, t⟩) op with
  | none => rw [hc] at h; cases h
  | some p =>
    obtain ⟨f, as⟩ := p
    rw [hc] at h
    have h : crun P K ih S f as (fun v S' => aft (aput nt ⟨n, t⟩ dst v) k S') = .out o1 e1 S1 := h
    obtain ⟨v, S', h1, l1, q1⟩ := crun_ok hK hi h
    obtain ⟨n', t', h2, h3⟩ := aft_out h1
    refine ⟨n', t', S', h3, fun o ho1 ho2 => ?_⟩
    subst ho1 ho2
    refine opR_upd (v := v) ⟨l1, fun m a w hR hf hG hρ next Q hn => ?_⟩ (aput_upd h2)
    obtain ⟨args, ha, hrun⟩ := acallee_ok (P := P) hρ hc
    unfold Oper.wp
    rw [hrun]
    rcases q1 m w args hR hf hG ha with ⟨he, hcalls⟩ | ⟨m', w', u, h4, h5, h6⟩
    · rw [he]
      refine Calls.mono hcalls ?_
      rintro e w' ⟨m', u, rfl, h4, h5⟩
      exact hn m' u w' h5 h4
    · rw [h4]
      exact hn m' u w' h6 h5
theorem arg_ok (nt nt' : Nat) : ∀ (l : List Operand) (i : Nat), ∃ fa fb, argN K l i = .mk fa ∧ argT K nt nt' l i = .mk fb ∧ ∀ (m : Map) (a : Act) (n : Nat) (t : T AV), Gl K m → EnvOk m ⟨n, t⟩ a.tmps → ∀ (acc : Nat) (u : T AV) (tmps : Array Value), EnvOk m ⟨acc, u⟩ tmps →
    (∀ j x, l[j]? = some x → tmps[i + j]? = some (a.eval x)) → EnvOk m ⟨fa n acc, fb n t u⟩ tmps
  | [], i => ⟨_, _, rfl, rfl, fun m a n t hG hE acc u tmps h _ => h⟩
  | x :: l, i => by
    obtain ⟨f, b, hf, hb, hfb⟩ := oc_ok (K := K) x nt
    obtain ⟨fa, fb, hfa, hfb', hrec⟩ := arg_ok nt nt' l (Nat.succ i)
    obtain ⟨p, hp, hp'⟩ := pP_ok (dep nt') i
    refine ⟨fun n a => fa n (pset a i (f n)), fun n t u => fb n t (Bool.rec u (p (b t) u) (Nat.beq (f n) 1)), by unfold argN; rw [hf, hfa]; rfl, by unfold argT; rw [hf, hb, hp, hfb']; rfl, fun m a n t hG hE acc u tmps h0 ht => ?_⟩
    refine hrec m a n t hG hE _ _ tmps ?_ fun j y hj => ?_
    · rw [tcap_eq hp']
      refine env_at h0 (hfb n).1 (ht 0 x rfl) fun y hy => ?_
      rw [← (hfb n).2 t] at hy
      exact evo_ok hG hE x y hy
    · have := ht (j + 1) y (by rw [List.getElem?_cons_succ]; exact hj)
      rw [show Nat.succ i + j = i + (j + 1) by omega]; exact this
theorem eget_zero (k : Nat) (U : T AV) : eget ⟨0, U⟩ k = none := by
  unfold eget; simp only; rw [slot_zero]; rfl
/-- a function that is known is called -/
theorem fcall_opR (hK : KnownOk P K) {f : FuncId} {fn : Func} {c : Code} {args : List Operand} {nt : Nat} {o : Oper} {n n' : Nat} {t t' : T AV} {S S' : St} {e1 : Env} {oo : Out} {fa : Nat → Nat → Nat} {fb : Nat → T AV → T AV → T AV} {U : T AV}
    (he : K.enter f = true) (hfn : fnc P f = some fn) (hb : fn.body = some c) (hl : len args ≤ fn.ntmps)
    (harg : ∀ (m : Map) (a : Act) (n : Nat) (t : T AV), Gl K m → EnvOk m ⟨n, t⟩ a.tmps → ∀ (acc : Nat) (u : T AV) (tmps : Array Value), EnvOk m ⟨acc, u⟩ tmps → (∀ j x, args[j]? = some x → tmps[0 + j]? = some (a.eval x)) → EnvOk m ⟨fa n acc, fb n t u⟩ tmps)
    (ho : ∃ tys, o.op = .call ⟨.value (.func f), args.toArray, tys⟩) (hoo : oo = .norm ∨ oo = .ret) (hs : SoundAt P K c fn.ntmps ⟨fa n 0, fb n t U⟩ S oo ⟨n', t'⟩ S')
    (hres : ∀ (m : Map) (a' : Act) (w' : World), R S'.lk m w' → EnvOk m ⟨n', t'⟩ a'.tmps → ∃ v, (results fn a'.tmps).run P w' = .ok v w' ∧ ∀ a : Act, EnvOk m ⟨n, t⟩ a.tmps → a.tmps.size = nt → EnvOk m e1 (a.put o.dst v).tmps ∧ (a.put o.dst v).tmps.size = nt) :
    OpR P K nt o ⟨n, t⟩ S e1 S' := by
  obtain ⟨l1, q1⟩ := hs
  refine ⟨l1, fun m a w hR hf hG hE hn hd next Q hq => ?_⟩
  obtain ⟨tys, ho⟩ := ho
  have hrun : (execOp a.eval o).run P w = (callFunc f (args.map a.eval).toArray).run P w := by
    obtain ⟨dst, op, type, pos, after, guard⟩ := o
    simp only at ho; subst ho
    have e : #[] ++ args.toArray.map a.eval ++ #[] = (args.map a.eval).toArray := by apply Array.ext'; simp
    have e2 : a.eval (.func f) = .func (.func f) #[] #[] := rfl
    simp only [execOp, resolve, Deferred.ofValue, e2, Sem.run_bind, Sem.run_pure, Result.andThen_ok, invoke, e]
  unfold Oper.wp
  rw [hrun, hK.enter f he]
  refine Calls.mono (R := fun e w' => ∃ m' v, e = .returned v ∧ Step K.g m S.lk S.nx w m' S'.lk S'.nx w' ∧ EnvOk m' e1 (a.put o.dst v).tmps ∧ (a.put o.dst v).tmps.size = nt) ?_ ?_
  · refine calls_of_wp ((fnc_eq P f).symm.trans hfn) hb ?_
    refine q1 m _ w hR hf hG ?_ ?_ rfl _ ?_
    · refine harg m a n t hG hE 0 U _ (fun k b hk => by rw [eget_zero] at hk; cases hk) fun j x hj => ?_
      have hjl : j < args.length := (List.getElem?_eq_some_iff.1 hj).1
      rw [Nat.zero_add, Array.getElem?_append_left (by simpa using hjl)]
      simp [hj]
    · simp only [Array.size_append, List.size_toArray, List.length_map, Array.size_replicate]
      rw [len_eq] at hl; omega
    · intro m' a' w' hst hE' hn' hd'
      obtain ⟨v, h2, h3⟩ := hres m' a' w' hst.rel hE'
      obtain ⟨h4, h5⟩ := h3 a (hE.ext hst.ext) hn
      rcases hoo with rfl | rfl
      · exact ⟨hd', v, h2, m', v, rfl, hst, h4, h5⟩
      · exact ⟨hd', v, h2, m', v, rfl, hst, h4, h5⟩
  · rintro e w' ⟨m', v, rfl, hst, h4, h5⟩
    exact hq m' _ w' hst h4 h5 (by rw [put_defers]; exact hd)
theorem fcall_ok (hK : KnownOk P K) (nt : Nat) (dst : Option Tmp) {f : FuncId} {args : List Operand} {op : Op} (hop : ∃ tys, op = .call ⟨.value (.func f), args.toArray, tys⟩) {mm : H → G → G} (hm : Cop1Ok P K nt dst op mm) : ∃ q, fcall P K nt dst f args mm = .mk q ∧ Cop1Ok P K nt dst op q := by
  unfold fcall
  split
  · rename_i fn he hfn
    split
    · rename_i c hb
      rw [cnd_eq]
      split
      · rename_i hl
        rw [Nat.ble_eq] at hl
        obtain ⟨fa, fb, hfa, hfb, harg⟩ := arg_ok (K := K) nt fn.ntmps args 0
        rw [hfa, hfb]
        show ∃ q, (match dst, fn.results.toList with
          | some d, [.tmp r] => cnd (Nat.blt d nt) (unB (gP (dep fn.ntmps) r) fun g => unB (pP (dep nt) d) fun p => .mk (fcall1 c fn.ntmps d r g p fa fb)) (.mk mm)
          | _, _ => .mk (fcallG P K nt c fn dst fa fb)) = Box.mk q ∧ Cop1Ok P K nt dst op q
        split
        · rename_i d r hr
          rw [cnd_eq]
          split
          · rename_i hd
            rw [blt_iff] at hd
            obtain ⟨g, hg, hg'⟩ := gP_ok (dep fn.ntmps) r
            obtain ⟨p, hp, hp'⟩ := pP_ok (dep nt) d
            rw [hg, hp]
            refine ⟨_, rfl, fun ih k n t S o1 e1 S1 hi h => ?_⟩
            obtain ⟨oo, n', t', S', h1, h2⟩ := hi _ _ _ _ _ _ _ _ _ _ h
            have h3 : kret d r g p k n t n' t' S' = .out o1 e1 S1 := by rcases h1 with ⟨_, h1⟩ | ⟨_, h1⟩ <;> exact h1
            have ho : oo = .norm ∨ oo = .ret := by rcases h1 with ⟨h1, _⟩ | ⟨h1, _⟩; exact .inl h1; exact .inr h1
            refine ⟨pset n d (slot n' r), tcap (slot n' r) (t'.get r) t d, S', by rw [← tcap_eq hp', ← hg']; exact h3, fun o ho1 ho2 => ?_⟩
            refine fcall_opR hK he hfn hb hl harg (by rw [ho2]; exact hop) ho h2 fun m a' w' hR' hE' => ?_
            have hrr : (results fn a'.tmps).run P w' = .ok (a'.tmps.getD r undef) w' := by
              have e : results fn a'.tmps = (do let vs ← fn.results.mapM (rvs a'.tmps); pure (if h : vs.size = 1 then vs[0] else .tuple vs)) := rfl
              rw [e, Sem.run_bind, Array.mapM_eq_mapM_toList, Sem.run_map, hr]
              rfl
            refine ⟨_, hrr, fun a hE hn => ?_⟩
            rw [ho1]
            refine env_place hE hn hd (slot_lt _ _) fun y hy => ?_
            obtain ⟨v, h5, h6⟩ := hE' r y hy
            rw [Array.getD_eq_getD_getElem?, h5]; exact h6
          · exact ⟨_, rfl, hm⟩
        · rename_i dst0 _ _ _
          refine ⟨_, rfl, fun ih k n t S o1 e1 S1 hi h => ?_⟩
          obtain ⟨oo, n', t', S', h1, h2⟩ := hi _ _ _ _ _ _ _ _ _ _ h
          have h3 : rk P K fn (fun v S' => aft (aput nt ⟨n, t⟩ dst0 v) k S') n' t' S' = .out o1 e1 S1 := by rcases h1 with ⟨_, h1⟩ | ⟨_, h1⟩ <;> exact h1
          have ho : oo = .norm ∨ oo = .ret := by rcases h1 with ⟨h1, _⟩ | ⟨h1, _⟩; exact .inl h1; exact .inr h1
          unfold rk at h3
          cases hv : ares P K ⟨n', t'⟩ S' fn.results.toList with
          | none => rw [hv] at h3; cases h3
          | some v =>
            rw [hv] at h3
            obtain ⟨n2, t2, h4, h5⟩ := aft_out h3
            refine ⟨n2, t2, S', h5, fun o ho1 ho2 => ?_⟩
            refine fcall_opR hK he hfn hb hl harg (by rw [ho2]; exact hop) ho h2 fun m a' w' hR' hE' => ?_
            obtain ⟨u, h6, h7⟩ := ares_ok (P := P) (fn := fn) hR' hE' hv
            refine ⟨u, h7, fun a hE hn => ?_⟩
            rw [ho1]
            exact upd_ok (aput_upd h4) hE hn h6
      · exact ⟨_, rfl, hm⟩
    · exact ⟨_, rfl, hm⟩
  · exact ⟨_, rfl, hm⟩
end
end Am
