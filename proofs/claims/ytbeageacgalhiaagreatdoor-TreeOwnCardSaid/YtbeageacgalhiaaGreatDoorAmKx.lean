/- A machine for closed runs: values that are letters, carried along unread; operations by hand. No program in sight. -/
import Derived.Test.YtbeageacgalhiaaGreatDoorAmKp
set_option linter.unusedVariables false
set_option linter.unusedSimpArgs false
namespace Am
open Go Go.RowKit
noncomputable section
variable {P : Program} {K : Known}

def eputB (e : Env) (t : Nat) (v : AV) : Env := ⟨pset e.n t 1, e.t.put (some v) t⟩
theorem eget_eputB {e : Env} {d k : Nat} {v a : AV} (h : eget (eputB e d v) k = some a) : (k = d ∧ a = v) ∨ (k ≠ d ∧ eget e k = some a) := by
  rcases eget_place (c := 1) (x := some v) (U := e.t) (by decide) h with ⟨h1, h2⟩ | h1
  · rw [dec_one] at h2; exact .inl ⟨h1, (Option.some.inj h2).symm⟩
  · exact .inr h1
def litX (e : Env) (l : List (Nat × AV)) : Env := l.foldl (fun e p => eputB e p.1 p.2) e
def outV (F : Fin) (ds : List Nat) : Option (List (Option AV)) := Fin.rec (motive := fun _ => Option (List (Option AV))) (fun _ e _ => some (ds.map (eget e))) (fun _ => none) F
def chkX (le : List (Nat × AV)) (lh : List (Nat × Blk)) (nx : Nat) : G := fun n t S => cnd ((chkE ⟨n, t⟩ le && chkH S lh) && Nat.beq nx S.nx) (.out .norm ⟨n, t⟩ S) (.bad [904])
theorem litX_ok {e : Env} : ∀ (l : List (Nat × AV)) (e0 : Env), l.map (fun p => eget e p.1) = l.map (fun p => some p.2) → ∀ t a, eget (litX e0 l) t = some a → eget e0 t = some a ∨ eget e t = some a
  | [], e0, _, t, a, h => .inl h
  | p :: l, e0, hc, t, a, h => by
    simp only [List.map_cons, List.cons.injEq] at hc
    rcases litX_ok l (eputB e0 p.1 p.2) hc.2 t a h with h1 | h1
    · rcases eget_eputB h1 with ⟨rfl, rfl⟩ | ⟨_, h2⟩
      · exact .inr hc.1
      · exact .inl h2
    · exact .inr h1
/-- a part of a run, with letters -/
theorem part_okX (hK : KnownOk P K) {fuel nt j : Nat} {c : Code} {env : Env} {S : St} {le lx : List (Nat × AV)} {lh : List (Nat × Blk)} {nx : Nat}
    (h : outV (runE (runS P K (adraw P K) (hN P K (adraw P K) fuel) nt (chkX le lh nx) j c) env S) (lx.map (·.1)) = some (lx.map fun p => some p.2)) : Reach P K nt c env S (dropS j c) (litX (litE le) lx) (litS lh nx) := by
  obtain ⟨n, t⟩ := env
  cases hF : runE (runS P K (adraw P K) (hN P K (adraw P K) fuel) nt (chkX le lh nx) j c) ⟨n, t⟩ S with
  | bad l => rw [hF] at h; cases h
  | out o e S1 =>
    rw [hF] at h
    have h : some ((lx.map (·.1)).map (eget e)) = some (lx.map fun p => some p.2) := h
    have h := Option.some.inj h
    rw [List.map_map] at h
    obtain ⟨n', t', S', h1, h2⟩ := runS_ok hK (adraw_ok hK) (hN_ok hK (adraw_ok hK) (fun nt all o => cop_ok hK nt all o) fuel) j c n t S o e S1 hF
    unfold chkX at h1
    rw [cnd_eq] at h1
    split at h1
    · rename_i hc
      obtain ⟨_, rfl, _⟩ := Fin.out.inj h1
      have hk : chk le lh nx n' t' S' = .out .norm enew ⟨.vl none, 0⟩ := by unfold chk; rw [cnd_eq, if_pos hc]
      obtain ⟨h3, h4, h5⟩ := chk_out hk
      refine h2.less (fun d a hd => ?_) h4 h5
      rcases litX_ok lx (litE le) h d a hd with h6 | h6
      · exact h3 d a h6
      · exact h6
    · cases h1
/-! operations by hand -/
theorem step_hand (hK : KnownOk P K) {all : List Oper} {o : Oper} {d nt : Nat} {env : Env} {S S1 : St} {v : AV} (hg : o.guard = none) (hd : o.dst = some d) (hdn : d < nt) (h : aop0 P K noIh S (evo K env) o.op = .ok v S1) : StepR P K nt all o env S (eput env d v) S1 := by
  refine .inl ⟨by unfold awant; rw [hg], opR_upd (opV_aop0 hK noIh_ok h) ?_⟩
  rw [hd]
  exact ⟨hdn, fun k a hk => eget_eput hk⟩
/-- as before, the value not looked at -/
theorem step_handB (hK : KnownOk P K) {all : List Oper} {o : Oper} {d nt : Nat} {env : Env} {S S1 : St} {v : AV} (hg : o.guard = none) (hd : o.dst = some d) (hdn : d < nt) (h : aop0 P K noIh S (evo K env) o.op = .ok v S1) : StepR P K nt all o env S (eputB env d v) S1 := by
  refine .inl ⟨by unfold awant; rw [hg], opR_upd (opV_aop0 hK noIh_ok h) ?_⟩
  rw [hd]
  exact ⟨hdn, fun k a hk => eget_eputB hk⟩
/-- the rest of a region, by the machine -/
theorem reg_rest (hK : KnownOk P K) {fuel nt : Nat} {ops : Array Oper} {rest : List Oper} {env1 : Env} {S1 : St} {k : G}
    (h2 : isOut (runE (fun n t S => unB (cops P K nt ops.toList rest) fun q => q (hN P K (adraw P K) fuel) k n t S) env1 S1) = true) : ∃ n' t' S' o1 e1 S2, k n' t' S' = .out o1 e1 S2 ∧ RegR P K nt ops rest env1 S1 ⟨n', t'⟩ S' := by
  obtain ⟨o1, e1, S2, h⟩ := isOut_ok h2
  obtain ⟨n, t⟩ := env1
  obtain ⟨q, hq, hq'⟩ := cops_ok (fun all o => cop_ok hK nt all o) ops rest
  have h : unB (cops P K nt ops.toList rest) (fun q => q (hN P K (adraw P K) fuel) k n t S1) = .out o1 e1 S2 := h
  rw [hq] at h
  obtain ⟨n', t', S', h3, h4⟩ := hq' _ _ _ _ _ _ _ _ (hN_ok hK (adraw_ok hK) (fun nt all o => cop_ok hK nt all o) fuel) h
  exact ⟨n', t', S', o1, e1, S2, h3, h4⟩
/-- the same, what is kept told beforehand -/
theorem reg_restL (hK : KnownOk P K) {fuel nt : Nat} {ops : Array Oper} {rest : List Oper} {env1 : Env} {S1 : St} {le lx : List (Nat × AV)} {lh : List (Nat × Blk)} {nx : Nat}
    (h : outV (runE (fun n t S => unB (cops P K nt ops.toList rest) fun q => q (hN P K (adraw P K) fuel) (chkX le lh nx) n t S) env1 S1) (lx.map (·.1)) = some (lx.map fun p => some p.2)) : RegR P K nt ops rest env1 S1 (litX (litE le) lx) (litS lh nx) := by
  obtain ⟨n, t⟩ := env1
  obtain ⟨q, hq, hq'⟩ := cops_ok (fun all o => cop_ok hK nt all o) ops rest
  have h : outV (unB (cops P K nt ops.toList rest) (fun q => q (hN P K (adraw P K) fuel) (chkX le lh nx) n t S1)) (lx.map (·.1)) = some (lx.map fun p => some p.2) := h
  rw [hq] at h
  have h : outV (q (hN P K (adraw P K) fuel) (chkX le lh nx) n t S1) (lx.map (·.1)) = some (lx.map fun p => some p.2) := h
  cases hF : q (hN P K (adraw P K) fuel) (chkX le lh nx) n t S1 with
  | bad l => rw [hF] at h; cases h
  | out o e S2 =>
    rw [hF] at h
    have h : some ((lx.map (·.1)).map (eget e)) = some (lx.map fun p => some p.2) := h
    have h := Option.some.inj h
    rw [List.map_map] at h
    obtain ⟨n', t', S', h1, l1, q1⟩ := hq' _ _ _ _ _ _ _ _ (hN_ok hK (adraw_ok hK) (fun nt all o => cop_ok hK nt all o) fuel) hF
    unfold chkX at h1
    rw [cnd_eq] at h1
    split at h1
    · rename_i hc
      obtain ⟨_, rfl, _⟩ := Fin.out.inj h1
      have hk : chk le lh nx n' t' S' = .out .norm enew ⟨.vl none, 0⟩ := by unfold chk; rw [cnd_eq, if_pos hc]
      obtain ⟨h3, h4, h5⟩ := chk_out hk
      refine ⟨by rw [h5]; exact l1, fun m a w hR hf hG hE hn hd Q hq => q1 m a w hR (by rw [← h5]; exact hf) hG hE hn hd Q fun m' a' w' st hE' hn' hd' => ?_⟩
      refine hq m' a' w' ?_ (fun d a hda => ?_) hn' hd'
      · have st' := st.weaken (lk2 := (litS lh nx).lk) (fun id b hb => ⟨b, h4 id b hb, fun h => h⟩) (fun id b _ hb => h4 id b hb)
        rw [h5]; exact st'
      · rcases litX_ok lx (litE le) h d a hda with h6 | h6
        · exact hE' d a (h3 d a h6)
        · exact hE' d a h6
    · cases h1
theorem sound_region {id nt : Nat} {ops : Array Oper} {env env' : Env} {S S' : St} (h : RegR P K nt ops ops.toList env S env' S') : SoundAt P K (.region id ops false) nt env S .norm env' S' :=
  ⟨h.1, fun m a w hR hf hG hE hn hd Q hq => wp_region_list (h.2 m a w hR hf hG hE hn hd Q hq)⟩
end
end Am
namespace Am
open Go Go.RowKit
noncomputable section
variable {P : Program} {K : Known}
/-- a place that holds a number unread is looked at -/
def see (t : Nat) (a : AV) (ρ : Rho) : Rho := fun x => match x with
  | .tmp s => bif Nat.beq s t then some a else ρ x
  | _ => ρ x
theorem see_ok {m : Map} {t : Nat} {a b : AV} {ρ : Rho} {ev : Operand → Value} (h : RhoOk m ρ ev) (hb : ρ (.tmp t) = some b) (he : ∀ u, cvo m b = some u → cvo m a = some u) : RhoOk m (see t a ρ) ev := fun x y hx => by
  cases x with
  | tmp s =>
    have hx : (bif Nat.beq s t then some a else ρ (.tmp s)) = some y := hx
    cases hs : Nat.beq s t with
    | true =>
      rw [hs, cond_true] at hx
      rw [Nat.beq_eq] at hs
      obtain rfl := Option.some.inj hx
      rw [hs]
      exact he _ (h _ _ hb)
    | false =>
      rw [hs, cond_false] at hx
      exact h _ _ hx
  | const v => exact h _ _ hx
  | global v => exact h _ _ hx
  | func v => exact h _ _ hx
/-- an operation that looks at a number (or text) that was carried unread -/
theorem step_see (hK : KnownOk P K) {all : List Oper} {o : Oper} {d nt t : Nat} {env : Env} {S S1 : St} {a b v : AV} (hg : o.guard = none) (hd : o.dst = some d) (hdn : d < nt) (hb : eget env t = some b) (he : ∀ m u, cvo m b = some u → cvo m a = some u)
    (h : aop0 P K noIh S (see t a (evo K env)) o.op = .ok v S1) : StepR P K nt all o env S (eput env d v) S1 := by
  refine .inl ⟨by unfold awant; rw [hg], ?_⟩
  obtain ⟨l1, q1⟩ := opV_aop0 (o := o) hK noIh_ok h
  refine ⟨l1, fun m act w hR hf hG hE hn hdf next Q hq => q1 m act w hR hf hG (see_ok (evo_ok hG hE) hb (he m)) _ _ fun m1 u w1 st hv => ?_⟩
  have hu : Upd nt env o.dst v (eput env d v) := by rw [hd]; exact ⟨hdn, fun k a hk => eget_eput hk⟩
  obtain ⟨e1, e2⟩ := upd_ok (u := u) hu (hE.ext st.ext) hn hv
  exact hq m1 _ w1 st e1 e2 (by rw [put_defers]; exact hdf)
theorem cvo_v_int {m : Map} {k : IntKind} {n : Int} {u : Value} (h : cvo m (.v (.int k n)) = some u) : cvo m (.i k n) = some u := by simpa [cvo, onecV] using h
end
end Am
namespace Am
open Go Go.RowKit
noncomputable section
variable {P : Program} {K : Known}
def two (P : Program) (K : Known) (fuel nt : Nat) (x y : Code) (k : G) : G := fun n t S => unB (cc P K (adraw P K) nt x) fun q => q (hN P K (adraw P K) fuel) (fun n t S => unB (cc P K (adraw P K) nt y) fun p => p (hN P K (adraw P K) fuel) k k (fun i => kBad [906, i]) n t S) (kBad [907]) (fun i => kBad [908, i]) n t S
/-- a region by hand, a part, the rest -/
theorem two_ok (hK : KnownOk P K) {fuel id nt : Nat} {ops : Array Oper} {x y : Code} {e e1 : Env} {S S1 : St} {r : Nat} {v : AV} (h1 : RegR P K nt ops ops.toList e S e1 S1)
    (h2 : isOut (runE (two P K fuel nt x y (chkR r v)) e1 S1) = true) : ∃ o env' S', (o = .norm ∨ o = .ret) ∧ SoundAt P K (.seq (.seq (.region id ops false) x) y) nt e S o env' S' ∧ eget env' r = some v := by
  obtain ⟨o1, e2, S2, h⟩ := isOut_ok h2
  obtain ⟨n, t⟩ := e1
  obtain ⟨q, hq, hq'⟩ := cc_ok hK (adraw_ok hK) (fun nt all o => cop_ok hK nt all o) (nt := nt) x
  obtain ⟨p, hp, hp'⟩ := cc_ok hK (adraw_ok hK) (fun nt all o => cop_ok hK nt all o) (nt := nt) y
  have hh := hN_ok hK (adraw_ok hK) (fun nt all o => cop_ok hK nt all o) fuel
  have h : unB (cc P K (adraw P K) nt x) (fun q => q (hN P K (adraw P K) fuel) (fun n t S => unB (cc P K (adraw P K) nt y) fun p => p (hN P K (adraw P K) fuel) (chkR r v) (chkR r v) (fun i => kBad [906, i]) n t S) (kBad [907]) (fun i => kBad [908, i]) n t S1) = .out o1 e2 S2 := h
  rw [hq, hp] at h
  obtain ⟨o, n3, t3, S3, h3, h4⟩ := hq' _ _ _ _ _ _ _ _ _ _ hh h
  cases o with
  | exit i => cases h3
  | ret => cases h3
  | norm =>
    obtain ⟨o, n4, t4, S4, h5, h6⟩ := hp' _ _ _ _ _ _ _ _ _ _ hh h3
    have hs := sound_seq (sound_seq (sound_region (id := id) h1) h4) h6
    cases o with
    | exit i => cases h5
    | norm => exact ⟨_, _, _, .inl rfl, hs, chkR_out h5⟩
    | ret => exact ⟨_, _, _, .inr rfl, hs, chkR_out h5⟩
/-- the parts of a sequence, in order -/
def partS : Nat → Code → Code
  | 0, .seq a _ => a
  | 0, c => c
  | j + 1, .seq _ b => partS j b
  | _ + 1, c => c
end
end Am
namespace Am
open Go Go.RowKit
noncomputable section
variable {P : Program} {K : Known}
/-- a function with parameters that are not looked at at first -/
theorem calls_args {f : FuncId} {fn : Func} {c : Code} {S S' : St} {o : Out} {env env' : Env} {r : Tmp} {v : AV} {u : Value} {m : Map} {w : World} {args : List Value} {as : List (Nat × AV)}
    (hfn : P.funcs[f]? = some fn) (hb : fn.body = some c) (hr : fn.results.toList = [.tmp r]) (hl : args.length ≤ fn.ntmps) (henv : env = litX enew as) (has : ∀ p ∈ as, ∃ x, args[p.1]? = some x ∧ ∀ m, cvo m p.2 = some x)
    (hs : SoundAt P K c fn.ntmps env S o env' S') (ho : o = .norm ∨ o = .ret) (hv : eget env' r = some v) (hu : ∀ m, cvo m v = some u)
    (hR : R S.lk m w) (hf : Fre m S.nx S'.nx) (hG : Gl K m) (hold : ∀ id b, S.lk id = some b → id < K.g) : Calls P f args.toArray w fun e w' => e = .returned u ∧ Below w.heap.size w w' := by
  obtain ⟨l1, q1⟩ := hs
  have hE0 : ∀ (l : List (Nat × AV)) (e0 : Env) (tmps : Array Value), (∀ p ∈ l, ∃ x, tmps[p.1]? = some x ∧ ∀ m, cvo m p.2 = some x) → EnvOk m e0 tmps → EnvOk m (litX e0 l) tmps := by
    intro l
    induction l with
    | nil => intro e0 tmps _ h; exact h
    | cons p l ih =>
      intro e0 tmps hl h
      refine ih (eputB e0 p.1 p.2) tmps (fun q hq => hl q (List.mem_cons_of_mem _ hq)) fun k a hk => ?_
      rcases eget_eputB hk with ⟨rfl, rfl⟩ | ⟨_, h2⟩
      · obtain ⟨x, h3, h4⟩ := hl p List.mem_cons_self
        exact ⟨x, h3, h4 m⟩
      · exact h k a h2
  refine calls_of_wp hfn hb ?_
  refine q1 m _ w hR hf hG ?_ (by simp; omega) rfl _ ?_
  · rw [henv]
    refine hE0 as enew _ (fun p hp => ?_) fun t a ha => by rw [eget_new] at ha; cases ha
    obtain ⟨x, h1, h2⟩ := has p hp
    refine ⟨x, ?_, h2⟩
    have hlt : p.1 < args.length := (List.getElem?_eq_some_iff.1 h1).1
    rw [Array.getElem?_append_left (by simpa using hlt)]
    simpa using h1
  · intro m' a' w' hst hE hn hd
    obtain ⟨u', h1, h2⟩ := hE r v hv
    have hu' : u' = u := Option.some.inj (h2.symm.trans (hu m'))
    have hrr : (results fn a'.tmps).run P w' = .ok u w' := by
      have e : results fn a'.tmps = (do let vs ← fn.results.mapM (rvs a'.tmps); pure (if h : vs.size = 1 then vs[0] else .tuple vs)) := rfl
      rw [e, Sem.run_bind, Array.mapM_eq_mapM_toList, Sem.run_map, hr]
      show Result.ok (a'.tmps.getD r undef) w' = _
      rw [Array.getD_eq_getD_getElem?, h1, hu']; rfl
    have hB : Below w.heap.size w w' := ⟨hst.os, hst.tape, hst.output, hst.size, fun k hk => hst.fr k hk fun id blk L i1 i2 i3 => absurd (hold id blk i2) (by omega)⟩
    rcases ho with rfl | rfl
    · exact ⟨hd, u, hrr, rfl, hB⟩
    · exact ⟨hd, u, hrr, rfl, hB⟩
end
end Am
