/- A machine for closed runs: from a run of a function's body to its contract: it returns 'v', and all that was there is as it was. No program in sight. -/
import Derived.Test.YtbeageacgalhiaaGreatDoorAmCk
set_option linter.unusedVariables false
set_option linter.unusedSimpArgs false
namespace Am
open Go Go.RowKit
noncomputable section
variable {P : Program} {K : Known}

theorem dropS_add : ∀ (j i : Nat) (c : Code), dropS i (dropS j c) = dropS (j + i) c
  | 0, i, c => by rw [Nat.zero_add]; rfl
  | j + 1, i, .seq _ b => by
    rw [Nat.succ_add]
    exact dropS_add j i b
  | j + 1, i, .skip => by rw [Nat.succ_add]; cases i <;> rfl
  | j + 1, i, .region _ _ _ => by rw [Nat.succ_add]; cases i <;> rfl
  | j + 1, i, .cond _ _ _ => by rw [Nat.succ_add]; cases i <;> rfl
  | j + 1, i, .block _ _ => by rw [Nat.succ_add]; cases i <;> rfl
  | j + 1, i, .loop _ => by rw [Nat.succ_add]; cases i <;> rfl
  | j + 1, i, .rangeFunc _ _ _ _ => by rw [Nat.succ_add]; cases i <;> rfl
  | j + 1, i, .exit _ => by rw [Nat.succ_add]; cases i <;> rfl
  | j + 1, i, .scope _ => by rw [Nat.succ_add]; cases i <;> rfl
  | j + 1, i, .label _ => by rw [Nat.succ_add]; cases i <;> rfl
  | j + 1, i, .goto _ => by rw [Nat.succ_add]; cases i <;> rfl
  | j + 1, i, .ret => by rw [Nat.succ_add]; cases i <;> rfl
  | j + 1, i, .refuse _ => by rw [Nat.succ_add]; cases i <;> rfl
theorem Reach.trans {nt : Nat} {c c1 c2 : Code} {e e1 e2 : Env} {S S1 S2 : St} (h : Reach P K nt c e S c1 e1 S1) (k : Reach P K nt c1 e1 S1 c2 e2 S2) : Reach P K nt c e S c2 e2 S2 := fun o eF SF hS => h o eF SF (k o eF SF hS)
/-- a function without parameters, one result -/
theorem calls_closed {f : FuncId} {fn : Func} {c : Code} {S S' : St} {o : Out} {env' : Env} {r : Tmp} {v : AV} {u : Value} {m : Map} {w : World}
    (hfn : P.funcs[f]? = some fn) (hb : fn.body = some c) (hr : fn.results.toList = [.tmp r]) (hs : SoundAt P K c fn.ntmps enew S o env' S') (ho : o = .norm ∨ o = .ret) (hv : eget env' r = some v) (hu : ∀ m, cvo m v = some u)
    (hR : R S.lk m w) (hf : Fre m S.nx S'.nx) (hG : Gl K m) (hold : ∀ id b, S.lk id = some b → id < K.g) : Calls P f #[] w fun e w' => e = .returned u ∧ Below w.heap.size w w' := by
  obtain ⟨l1, q1⟩ := hs
  refine calls_of_wp hfn hb ?_
  refine q1 m _ w hR hf hG (fun t a ha => by rw [eget_new] at ha; cases ha) (by simp) rfl _ ?_
  intro m' a' w' hst hE hn hd
  obtain ⟨u', h1, h2⟩ := hE r v hv
  have hu' : u' = u := Option.some.inj (h2.symm.trans (hu m'))
  have hrr : (results fn a'.tmps).run P w' = .ok u w' := by
    have e : results fn a'.tmps = (do let vs ← fn.results.mapM (rvs a'.tmps); pure (if h : vs.size = 1 then vs[0] else .tuple vs)) := rfl
    rw [e, Sem.run_bind, Array.mapM_eq_mapM_toList, Sem.run_map, hr]
    show Result.ok (a'.tmps.getD r undef) w' = _
    rw [Array.getD_eq_getD_getElem?, h1, hu']; rfl
  have hB : Below w.heap.size w w' := ⟨hst.os, hst.tape, hst.output, hst.size, fun k hk => hst.fr k hk fun id blk L i1 i2 i3 => absurd (hold id blk i2) (by omega)⟩
  rcases ho with rfl | rfl
  · exact ⟨hd, u, hrr, rfl, hB⟩
  · exact ⟨hd, u, hrr, rfl, hB⟩
/-- a function without parameters is called, of which a contract is known -/
theorem call_stepR (hK : KnownOk P K) {all : List Oper} {o : Oper} {f : FuncId} {d nt : Nat} {tys : Array TypeId} {env : Env} {S : St} {u : Value} {v : AV} (hg : o.guard = none) (ho : o.op = .call ⟨.value (.func f), #[], tys⟩) (hd : o.dst = some d) (hdn : d < nt) (he : K.enter f = true)
    (hc : ∀ m w, R S.lk m w → Gl K m → Calls P f #[] w fun e w' => e = .returned u ∧ Below w.heap.size w w') (hv : ∀ m, cvo m v = some u) : StepR P K nt all o env S (eput env d v) S := by
  refine .inl ⟨by unfold awant; rw [hg], Nat.le_refl _, fun m a w hR hf hG hE hn hdf next Q hq => ?_⟩
  have hrun : (execOp a.eval o).run P w = (callFunc f #[]).run P w := by
    obtain ⟨dst, op, type, pos, after, guard⟩ := o
    simp only at ho; subst ho
    have e2 : a.eval (.func f) = .func (.func f) #[] #[] := rfl
    have e : (#[] : Array Value) ++ Array.map a.eval #[] ++ #[] = #[] := by simp
    simp only [execOp, resolve, Deferred.ofValue, e2, Sem.run_bind, Sem.run_pure, Result.andThen_ok, invoke, e]
  unfold Oper.wp
  rw [hrun, hK.enter f he]
  refine Calls.mono (hc m w hR hG) ?_
  rintro e w' ⟨rfl, hb⟩
  have hst := Step.below (g := K.g) (nx := S.nx) hR hb
  have hu : Upd nt env (some d) v (eput env d v) := ⟨hdn, fun k a hk => eget_eput hk⟩
  obtain ⟨e1, e3⟩ := upd_ok (u := u) hu hE hn (hv m)
  rw [← hd] at e1 e3
  exact hq m _ w' hst e1 e3 (by rw [put_defers]; exact hdf)
/-- a region whose first operation is known otherwise -/
theorem sound_region_first (hK : KnownOk P K) {fuel id nt : Nat} {ops : Array Oper} {o : Oper} {rest : List Oper} {env env1 : Env} {S S1 : St} {k : G} (hops : ops.toList = o :: rest) (h1 : StepR P K nt ops.toList o env S env1 S1)
    (h2 : isOut (runE (fun n t S => unB (cops P K nt ops.toList rest) fun q => q (hN P K (adraw P K) fuel) k n t S) env1 S1) = true) : ∃ n' t' S' o1 e1 S2, k n' t' S' = .out o1 e1 S2 ∧ SoundAt P K (.region id ops false) nt env S .norm ⟨n', t'⟩ S' := by
  obtain ⟨o1, e1, S2, h⟩ := isOut_ok h2
  obtain ⟨n, t⟩ := env1
  obtain ⟨q, hq, hq'⟩ := cops_ok (fun all o => cop_ok hK nt all o) ops rest
  have h : unB (cops P K nt ops.toList rest) (fun q => q (hN P K (adraw P K) fuel) k n t S1) = .out o1 e1 S2 := h
  rw [hq] at h
  obtain ⟨n', t', S', h3, h4⟩ := hq' _ _ _ _ _ _ _ _ (hN_ok hK (adraw_ok hK) (fun nt all o => cop_ok hK nt all o) fuel) h
  have hr := reg_cons h1 h4
  rw [← hops] at hr
  obtain ⟨l1, q1⟩ := hr
  exact ⟨n', t', S', o1, e1, S2, h3, l1, fun m a w hR hf hG hE hn hd Q hq => wp_region_list (q1 m a w hR hf hG hE hn hd Q hq)⟩
theorem sound_ret {nt : Nat} {env : Env} {S : St} : SoundAt P K .ret nt env S .ret env S :=
  ⟨Nat.le_refl _, fun m a w hR hf hG hE hn hd Q hq => wp_ret (hq m a w (Step.refl hR) hE hn hd)⟩
theorem chkR_out {r : Nat} {v : AV} {n : Nat} {t : T AV} {S : St} {o1 : Out} {e1 : Env} {S1 : St} (h : chkR r v n t S = .out o1 e1 S1) : eget ⟨n, t⟩ r = some v := by
  unfold chkR at h
  rw [cnd_eq] at h
  split at h
  · rename_i hc
    simp only [chkE, Bool.and_true] at hc
    split at hc
    · rename_i a ha
      rw [ha, eqb_ok _ hc]
    · cases hc
  · cases h
def hdOps : Code → Array Oper
  | .seq (.region _ ops _) _ => ops
  | _ => #[]
def hdId : Code → Nat
  | .seq (.region id _ _) _ => id
  | _ => 0
end
end Am
