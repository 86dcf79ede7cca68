/- A machine for closed runs: two operands. No program in sight. -/
import Derived.Test.YtbeageacgalhiaaGreatDoorAmD
set_option linter.unusedVariables false
set_option linter.unusedSimpArgs false
namespace Am
open Go
noncomputable section

theorem aeq0_bin {P : Program} {t : TypeId} {a b : AV} {r : Bool} {m : Map} {u v : Value} (h : aeq0 P t a b = some r) (ha : cvo m a = some u) (hb : cvo m b = some v)
    (hi : ∀ k x k' y, ¬ (a = .i k x ∧ b = .i k' y)) (hs : ∀ k x k' y, ¬ (a = .s k x ∧ b = .s k' y)) :
    binOp .eql t u v = (do pure (.bool (← Op.equal t u v))) ∧ binOp .neq t u v = (do pure (.bool (!(← Op.equal t u v)))) := by
  unfold aeq0 at h
  split at h
  all_goals try simp only [cvo, Option.map_eq_some_iff, Option.bind_eq_some_iff, Option.some.injEq, Option.ite_none_right_eq_some] at ha hb
  case h_1 => subst ha hb; exact ⟨rfl, rfl⟩
  case h_2 => exact absurd ⟨rfl, rfl⟩ (hi _ _ _ _)
  case h_3 => exact absurd ⟨rfl, rfl⟩ (hs _ _ _ _)
  case h_4 => subst ha hb; exact ⟨rfl, rfl⟩
  case h_5 => obtain ⟨L, _, rfl⟩ := hb; subst ha; exact ⟨rfl, rfl⟩
  case h_6 => obtain ⟨L, _, rfl⟩ := ha; subst hb; exact ⟨rfl, rfl⟩
  case h_7 => obtain ⟨L, _, rfl⟩ := ha; obtain ⟨K, _, rfl⟩ := hb; exact ⟨rfl, rfl⟩
  case h_8 => subst ha hb; exact ⟨rfl, rfl⟩
  case h_9 => obtain ⟨L, _, _, rfl⟩ := hb; subst ha; exact ⟨rfl, rfl⟩
  case h_10 => obtain ⟨L, _, _, rfl⟩ := ha; subst hb; exact ⟨rfl, rfl⟩
  case h_11 => subst ha hb; exact ⟨rfl, rfl⟩
  case h_12 => obtain ⟨L, _, rfl⟩ := hb; subst ha; exact ⟨rfl, rfl⟩
  case h_13 => obtain ⟨L, _, rfl⟩ := ha; subst hb; exact ⟨rfl, rfl⟩
  case h_14 => subst ha hb; exact ⟨rfl, rfl⟩
  case h_15 => obtain ⟨L, _, _, _, rfl⟩ := hb; subst ha; exact ⟨rfl, rfl⟩
  case h_16 => obtain ⟨L, _, _, _, rfl⟩ := ha; subst hb; exact ⟨rfl, rfl⟩
  case h_17 => subst ha hb; exact ⟨rfl, rfl⟩
  case h_18 => obtain ⟨L, _, rfl⟩ := hb; subst ha; exact ⟨rfl, rfl⟩
  case h_19 => obtain ⟨L, _, rfl⟩ := ha; subst hb; exact ⟨rfl, rfl⟩
  case h_20 => cases h
theorem cvo_nilIface {m : Map} {a : AV} (h : cvo m a = some .nilIface) : a = .nifc := by
  cases a <;> simp only [cvo, Option.map_eq_some_iff, Option.bind_eq_some_iff, Option.some.injEq, Option.ite_none_right_eq_some, reduceCtorEq, and_false, exists_false] at h
  · rfl
  · obtain ⟨h1, rfl⟩ := h; cases h1
theorem cvo_agg {m : Map} {a : AV} {x : Array Value} (h : cvo m a = some (.agg x)) : ∃ l, a = .ag l := by
  cases a <;> simp only [cvo, Option.map_eq_some_iff, Option.bind_eq_some_iff, Option.some.injEq, Option.ite_none_right_eq_some, reduceCtorEq, and_false, exists_false] at h
  · exact ⟨_, rfl⟩
  · obtain ⟨h1, rfl⟩ := h; cases h1
theorem aeq_ok {P : Program} {op : BinOp} {t : TypeId} {xo yo : Operand} {a b : AV} {r : Bool} {m : Map} {u v : Value} (h : aeq P t xo yo a b = some r) (ha : cvo m a = some u) (hb : cvo m b = some v)
    (hi : ∀ k x k' y, ¬ (a = .i k x ∧ b = .i k' y)) (hs : ∀ k x k' y, ¬ (a = .s k x ∧ b = .s k' y)) (w : World) :
    (eqGuard op t xo yo u v).run P w = .ok () w ∧ (binOp .eql t u v).run P w = .ok (.bool r) w ∧ (binOp .neq t u v).run P w = .ok (.bool (!r)) w := by
  unfold aeq at h
  split at h
  · rename_i l k
    split at h
    · rename_i fs ht
      cases hg : (P.stoodInHeld t || P.eqGuardType P.depth t) with
      | true => rw [hg] at h; cases h
      | false =>
        rw [hg, cond_false] at h
        rw [Bool.or_eq_false_iff] at hg
        simp only [cvo, Option.map_eq_some_iff] at ha hb
        obtain ⟨us, h1, rfl⟩ := ha
        obtain ⟨vs, h2, rfl⟩ := hb
        have hf : P.fieldsOf t = fs := by simp [Program.fieldsOf, (und_ok ht)]
        have he := run_equalIn_struct (P := P) w 9999 t us.toArray vs.toArray (by rw [hf]; exact (und_ok ht)) hg.1
        rw [hf, aeqF_ok h1 h2 9998 w h] at he
        refine ⟨?_, ?_, ?_⟩
        · unfold eqGuard
          split
          · rw [if_neg (by simp)]; simp [hg.2]
          · rw [if_neg (by simp)]; simp [hg.2]
          · rw [if_pos (by simp)]; rfl
        · show (do pure (.bool (← Op.equal t (.agg us.toArray) (.agg vs.toArray))) : Sem Value).run P w = _
          have he' : (Op.equal t (.agg us.toArray) (.agg vs.toArray)).run P w = .ok r w := he
          simp [he']
        · show (do pure (.bool (!(← Op.equal t (.agg us.toArray) (.agg vs.toArray)))) : Sem Value).run P w = _
          have he' : (Op.equal t (.agg us.toArray) (.agg vs.toArray)).run P w = .ok r w := he
          simp [he']
    · cases h
  · cases hk : (isK xo || isK yo) with
    | false => rw [hk] at h; cases h
    | true =>
      rw [hk, cond_true] at h
      have he := aeq0_ok h ha hb 9999 w
      obtain ⟨b1, b2⟩ := aeq0_bin h ha hb hi hs
      have he' : (Op.equal t u v).run P w = .ok r w := he
      simp only [cvo, Option.some.injEq] at ha hb
      refine ⟨?_, by rw [b1]; simp [he'], by rw [b2]; simp [he']⟩
      subst ha hb
      unfold eqGuard
      split
      · rw [if_neg (by simp)]; cases xo <;> cases yo <;> first | rfl | (cases hk)
      · rw [if_neg (by simp)]; cases xo <;> cases yo <;> first | rfl | (cases hk)
      · rw [if_pos (by simp)]; rfl
  · rename_i hn1 hn2
    have he := aeq0_ok h ha hb 9999 w
    obtain ⟨b1, b2⟩ := aeq0_bin h ha hb hi hs
    have he' : (Op.equal t u v).run P w = .ok r w := he
    refine ⟨guard_ok w ?_ ?_, by rw [b1]; simp [he'], by rw [b2]; simp [he']⟩
    · rintro ⟨rfl, rfl⟩
      exact hn2 (cvo_nilIface ha) (cvo_nilIface hb)
    · rintro x y ⟨rfl, rfl⟩
      obtain ⟨l, rfl⟩ := cvo_agg ha
      obtain ⟨k, rfl⟩ := cvo_agg hb
      exact hn1 _ _ rfl rfl
theorem abin_ok {P : Program} {op : BinOp} {t : TypeId} {xo yo : Operand} {a b r : AV} {m : Map} {u v : Value} (h : abin P op t xo yo a b = some r) (ha : cvo m a = some u) (hb : cvo m b = some v) :
    ∃ z, cvo m r = some z ∧ ∀ w, ((do eqGuard op t xo yo u v; binOp op t u v) : Sem Value).run P w = .ok z w := by
  unfold abin at h
  split at h
  · rename_i k x k' y
    simp only [cvo, Option.some.injEq] at ha hb
    subst ha hb
    have hg := fun w => guard_ok (P := P) (op := op) (t := t) (xo := xo) (yo := yo) (u := .int k x) (v := .int k' y) w (by simp) (by simp)
    split at h
    · obtain ⟨z, h1, h2⟩ := ishf_ok (P := P) (t := t) (k' := k') h m
      exact ⟨z, h1, fun w => by simp only [Sem.run_bind, hg, Result.andThen_ok, h2]⟩
    · obtain ⟨z, h1, h2⟩ := ishf_ok (P := P) (t := t) (k' := k') h m
      exact ⟨z, h1, fun w => by simp only [Sem.run_bind, hg, Result.andThen_ok, h2]⟩
    · cases hk : keq k k' with
      | false => rw [hk] at h; cases h
      | true =>
        rw [hk, cond_true] at h
        have := keq_eq hk; subst this
        obtain ⟨z, h1, h2⟩ := ikin_ok (P := P) (t := t) h m
        exact ⟨z, h1, fun w => by simp only [Sem.run_bind, hg, Result.andThen_ok, h2]⟩
  · rename_i n x k y
    simp only [cvo, Option.ite_none_right_eq_some, Option.some.injEq] at ha hb
    obtain ⟨hx, rfl⟩ := ha
    obtain ⟨hy, rfl⟩ := hb
    have hg := fun w => guard_ok (P := P) (op := op) (t := t) (xo := xo) (yo := yo) (u := .string ⟨(unp n x).toArray⟩) (v := .string ⟨(unp k y).toArray⟩) w (by simp) (by simp)
    obtain ⟨z, h1, h2⟩ := strin_ok (P := P) (t := t) h m hx hy
    exact ⟨z, h1, fun w => by simp only [Sem.run_bind, hg, Result.andThen_ok, h2]⟩
  · rename_i hn1 hn2
    have hi : ∀ k x k' y, ¬ (a = .i k x ∧ b = .i k' y) := fun k x k' y ⟨e1, e2⟩ => hn1 _ _ _ _ e1 e2
    have hs : ∀ k x k' y, ¬ (a = .s k x ∧ b = .s k' y) := fun k x k' y ⟨e1, e2⟩ => hn2 _ _ _ _ e1 e2
    split at h
    · split at h
      · rename_i q hq
        have h := (Option.some.inj h).symm; subst h
        exact ⟨_, rfl, fun w => by
          obtain ⟨g1, g2, g3⟩ := aeq_ok (op := .eql) hq ha hb hi hs w
          simp only [Sem.run_bind, g1, Result.andThen_ok, g2]⟩
      · cases h
    · split at h
      · rename_i q hq
        have h := (Option.some.inj h).symm; subst h
        exact ⟨_, rfl, fun w => by
          obtain ⟨g1, g2, g3⟩ := aeq_ok (op := .neq) hq ha hb hi hs w
          simp only [Sem.run_bind, g1, Result.andThen_ok, g3]⟩
      · cases h
    · cases h
end
end Am
