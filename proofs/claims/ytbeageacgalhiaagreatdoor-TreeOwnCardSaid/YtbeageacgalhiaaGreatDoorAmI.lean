/- A machine for closed runs: all operations that ask no memory, done. No program in sight. -/
import Derived.Test.YtbeageacgalhiaaGreatDoorAmH
set_option linter.unusedVariables false
set_option linter.unusedSimpArgs false
namespace Am
open Go
noncomputable section
variable {P : Program}

theorem ba_extract (l : List UInt8) (a b : Nat) : (ByteArray.mk l.toArray).extract a b = ⟨((l.drop a).take (b - a)).toArray⟩ := by
  apply ByteArray.ext
  simp [ByteArray.data_extract, List.extract_eq_take_drop]
theorem asli_ok {m : Map} {ρ : Rho} {ev : Operand → Value} (hρ : RhoOk m ρ ev) {t : TypeId} {a r : AV} {lo hi mx : Option Operand} {v : Value} (h : asli P ρ t a lo hi mx = some r) (ha : cvo m a = some v) :
    ∃ z, cvo m r = some z ∧ ∀ w, (Instr.sliceAt t v (lo.map ev) (hi.map ev) (mx.map ev)).run P w = .ok z w := by
  unfold asli at h
  split at h
  · rename_i n x ht
    split at h
    · rename_i l h' hl hh
      cases hb : (Nat.ble (h'.getD n) n && Nat.ble (l.getD 0) (h'.getD n)) with
      | false => rw [hb] at h; cases h
      | true =>
        rw [hb, cond_true] at h
        obtain rfl := Option.some.inj h
        rw [Bool.and_eq_true, Nat.ble_eq, Nat.ble_eq] at hb
        simp only [cvo, Option.ite_none_right_eq_some, Option.some.injEq] at ha
        obtain ⟨_, rfl⟩ := ha
        have hlo := obd_ok hρ hl
        have hhi := obd_ok hρ hh
        have hsz : (ByteArray.mk (unp n x).toArray).size = n := by simp [ByteArray.size, unp_length]
        have e : ((unp n x).drop (l.getD 0)).take (h'.getD n - l.getD 0) = unp (h'.getD n - l.getD 0) (Nat.mod (Nat.shiftRight x (8 * l.getD 0)) (2 ^ (8 * (h'.getD n - l.getD 0)))) := by
          rw [unp_drop, unp_take _ _ _ (by omega)]; rfl
        refine ⟨.string ⟨(unp (h'.getD n - l.getD 0) (Nat.mod (Nat.shiftRight x (8 * l.getD 0)) (2 ^ (8 * (h'.getD n - l.getD 0))))).toArray⟩, ?_, fun w => ?_⟩
        · simp only [cvo]
          rw [if_pos]
          rw [pow256]; exact Nat.mod_lt _ (Nat.two_pow_pos _)
        · have hr := sliceBounds_ok (P := P) false n n hlo hhi w hb.1 hb.2
          simp only [Option.map_none, Instr.sliceAt, Sem.run_bind, run_und ht, Result.andThen_ok, Instr.slice, Option.isSome_none, Bool.false_eq_true, if_false, hsz, Sem.run_pure]
          rw [hr]
          simp only [Result.andThen_ok, Sem.run_pure, ba_extract, e]
    · cases h
  · rename_i e id off n cap es pre ht
    split at h
    · rename_i l h' m' s hl hh hm hs
      cases hb : Nat.beq s es with
      | false => rw [hb] at h; cases h
      | true =>
        rw [hb, cond_true] at h
        rw [Nat.beq_eq] at hb; subst hb
        exact aslc_ok h ha (obd_ok hρ hl) (obd_ok hρ hh) (obd_ok hρ hm) ht hs
    · cases h
  · rename_i e ht
    split at h
    · rename_i l h' s hl hh hs
      cases hb : (Nat.beq (l.getD 0) 0 && Nat.beq (h'.getD 0) 0) with
      | false => rw [hb] at h; cases h
      | true =>
        rw [hb, cond_true] at h
        rw [Bool.and_eq_true, Nat.beq_eq, Nat.beq_eq] at hb
        obtain rfl := Option.some.inj h
        simp only [cvo, Option.some.injEq] at ha; subst ha
        refine ⟨_, rfl, fun w => ?_⟩
        have hr := sliceBounds_ok (P := P) true 0 0 (obd_ok hρ hl) (obd_ok hρ hh) w (by omega) (by omega)
        rw [hb.1, hb.2] at hr
        simp [Instr.sliceAt, run_und ht, Instr.slice, hr, run_szo hs]
    · cases h
  · cases h
theorem abul_ok {m : Map} {b : Builtin} {ts : Array TypeId} {as : List AV} {vs : List Value} {r : AV} (h : abul P b ts.toList as = some r) (ha : cvs m as = some vs) (ty : TypeId) (cs : Array Bool) :
    ∃ z, cvo m r = some z ∧ ∀ w, (builtin b ts ty cs vs.toArray).run P w = .ok (.value z) w := by
  obtain ⟨ts⟩ := ts
  unfold abul at h
  split at h
  · rename_i t ts' a as' heq
    simp only at heq; subst heq
    obtain ⟨v, vs', h1, h2, rfl⟩ := cvs_cons.1 ha
    unfold alen at h
    split at h
    · rename_i n x ht
      obtain rfl := Option.some.inj h
      simp only [cvo, Option.ite_none_right_eq_some, Option.some.injEq] at h1
      obtain ⟨_, rfl⟩ := h1
      have hsz : (ByteArray.mk (unp n x).toArray).size = n := by simp [ByteArray.size, unp_length]
      exact ⟨_, rfl, fun w => by simp [builtin, Builtin.len_, run_und ht, goInt, hsz]⟩
    · rename_i e id off n cap es pre ht
      obtain rfl := Option.some.inj h
      simp only [cvo, Option.bind_eq_some_iff, Option.ite_none_right_eq_some, Option.some.injEq] at h1
      obtain ⟨L, hL, _, rfl⟩ := h1
      exact ⟨_, rfl, fun w => by simp [builtin, Builtin.len_, run_und ht, goInt]⟩
    · rename_i e ht
      obtain rfl := Option.some.inj h
      simp only [cvo, Option.some.injEq] at h1; subst h1
      exact ⟨_, rfl, fun w => by simp [builtin, Builtin.len_, run_und ht, goInt]⟩
    · rename_i n e ht
      obtain rfl := Option.some.inj h
      exact ⟨_, rfl, fun w => by simp [builtin, Builtin.len_, run_und ht, goInt]⟩
    · cases h
  · rename_i t ts' a as' heq
    simp only at heq; subst heq
    obtain ⟨v, vs', h1, h2, rfl⟩ := cvs_cons.1 ha
    unfold acap at h
    split at h
    · rename_i e id off n c es pre ht
      obtain rfl := Option.some.inj h
      simp only [cvo, Option.bind_eq_some_iff, Option.ite_none_right_eq_some, Option.some.injEq, Option.getD_some] at h1
      obtain ⟨L, hL, _, rfl⟩ := h1
      exact ⟨_, rfl, fun w => by simp [builtin, Builtin.cap_, run_und ht, goInt]⟩
    · rename_i e ht
      obtain rfl := Option.some.inj h
      simp only [cvo, Option.some.injEq] at h1; subst h1
      exact ⟨_, rfl, fun w => by simp [builtin, Builtin.cap_, run_und ht, goInt]⟩
    · cases h
  · obtain ⟨v, vs', h1, h2, rfl⟩ := cvs_cons.1 ha
    obtain ⟨z, f1, f2⟩ := amm_max (P := P) h2 h1 h
    exact ⟨z, f1, fun w => by simp [builtin, Builtin.max_, f2]⟩
  · obtain ⟨v, vs', h1, h2, rfl⟩ := cvs_cons.1 ha
    obtain ⟨z, f1, f2⟩ := amm_min (P := P) h2 h1 h
    exact ⟨z, f1, fun w => by simp [builtin, Builtin.min_, f2]⟩
  · obtain ⟨v, vs', h1, h2, rfl⟩ := cvs_cons.1 ha
    simp [cvs] at h2; subst h2
    unfold asld at h
    split at h
    · obtain rfl := Option.some.inj h
      simp only [cvo, Option.some.injEq] at h1; subst h1
      exact ⟨_, rfl, fun w => rfl⟩
    · rename_i id off n cap es pre
      cases hb : Nat.beq n 0 with
      | true => rw [hb] at h; cases h
      | false =>
        rw [hb, cond_false] at h
        obtain rfl := Option.some.inj h
        have hn0 : n ≠ 0 := by rw [Bool.eq_false_iff, Ne, Nat.beq_eq] at hb; exact hb
        simp only [cvo, Option.bind_eq_some_iff, Option.ite_none_right_eq_some, Option.some.injEq] at h1
        obtain ⟨L, hL, ⟨g1, g2, g3⟩, rfl⟩ := h1
        have hc : cap.getD ((L.e - off) / es) ≠ 0 := by omega
        refine ⟨.pointer (some ⟨L.b, L.s + off, none⟩), by simp [cvo, hL], fun w => ?_⟩
        rw [if_neg hc, Nat.sub_zero]
        have e : ∀ (A : Addr) (n c : Nat), Builtin.unsafeSliceData_ ⟨ts⟩ ty [Value.slice (some A) n c].toArray = (do
          if c ≠ 0 then pure (.pointer (some A))
          else if (← viewAt A.block).isSome then pure (.pointer (some A))
          else pure (.pointer (some ⟨← newObj (.view A (← elemOf ty)), 0, none⟩))) := fun _ _ _ => rfl
        simp only [builtin, e, if_pos hc]; rfl
    · cases h
  · cases h
theorem apure_ok {m : Map} {ρ : Rho} {ev : Operand → Value} (hρ : RhoOk m ρ ev) {o : Oper} {r : AV} (h : apure P ρ o.op = some r) :
    ∃ z, cvo m r = some z ∧ ∀ w, (execOp ev o).run P w = .ok (.value z) w := by
  obtain ⟨dst, op, type, pos, after, guard⟩ := o
  cases op <;> simp only [apure, reduceCtorEq] at h <;> simp only [execOp]
  case move x => exact ⟨_, hρ _ _ h, fun w => rfl⟩
  case assign x => exact ⟨_, hρ _ _ h, fun w => rfl⟩
  case pick c a b =>
    split at h
    · rename_i x hx
      have := hρ _ _ hx
      simp only [cvo, Option.some.injEq] at this
      cases x with
      | true => exact ⟨_, hρ _ _ h, fun w => by simp [← this, asBool]⟩
      | false => exact ⟨_, hρ _ _ h, fun w => by simp [← this, asBool]⟩
    · cases h
  case nilCheck x =>
    split at h
    · rename_i id off hx
      obtain rfl := Option.some.inj h
      have := hρ _ _ hx
      refine ⟨_, this, fun w => ?_⟩
      simp only [cvo, Option.map_eq_some_iff] at this
      obtain ⟨L, _, e⟩ := this
      rw [← e]; rfl
    · rename_i f a c hx
      obtain rfl := Option.some.inj h
      have := hρ _ _ hx
      refine ⟨_, this, fun w => ?_⟩
      simp only [cvo, Option.map_eq_some_iff, Option.bind_eq_some_iff] at this
      obtain ⟨_, _, _, _, e⟩ := this
      rw [← e]; rfl
    · rename_i t v hx
      obtain rfl := Option.some.inj h
      have := hρ _ _ hx
      refine ⟨_, this, fun w => ?_⟩
      simp only [cvo, Option.map_eq_some_iff] at this
      obtain ⟨_, _, e⟩ := this
      rw [← e]; rfl
    · cases h
  case binOp op t x y t' =>
    split at h
    · rename_i a b ha hb
      obtain ⟨z, h1, h2⟩ := abin_ok h (hρ _ _ ha) (hρ _ _ hb)
      refine ⟨z, h1, fun w => ?_⟩
      have := h2 w
      simp only [Sem.run_bind] at this ⊢
      rw [this]; rfl
    · cases h
  case unOp op t x =>
    split at h
    · rename_i b hx
      obtain rfl := Option.some.inj h
      have := hρ _ _ hx
      simp only [cvo, Option.some.injEq] at this
      exact ⟨_, rfl, fun w => by rw [← this]; simp [Op.unary]⟩
    · rename_i k n hx
      obtain rfl := Option.some.inj h
      have := hρ _ _ hx
      simp only [cvo, Option.some.injEq] at this
      exact ⟨_, rfl, fun w => by rw [← this]; simp [Op.unary, Op.intArith, iwrap_eq]⟩
    · rename_i k n hx
      obtain rfl := Option.some.inj h
      have := hρ _ _ hx
      simp only [cvo, Option.some.injEq] at this
      exact ⟨_, rfl, fun w => by rw [← this]; rfl⟩
    · cases h
  case convert s d x =>
    split at h
    · rename_i a ha
      obtain ⟨z, h1, h2⟩ := acv_ok h (hρ _ _ ha)
      exact ⟨z, h1, fun w => by simp [h2]⟩
    · cases h
  case makeInterface t x =>
    split at h
    · rename_i d a hd ha
      split at h
      · cases h
      · obtain rfl := Option.some.inj h
        rename_i hni
        refine ⟨.iface t (ev x), by simp [cvo, hρ _ _ ha], fun w => ?_⟩
        simp only [Sem.run_bind, Instr.makeInterface, run_und hd, Result.andThen_ok]
        cases d <;> first | rfl | exact absurd rfl (hni _)
    · cases h
  case makeFunc f a c =>
    split at h
    · rename_i a' c' ha hc
      obtain rfl := Option.some.inj h
      refine ⟨.func f (a.map ev) (c.map ev), ?_, fun w => rfl⟩
      simp only [cvo, amap_ok hρ ha, amap_ok hρ hc, Option.bind_some, Option.map_some]
      have ea : (List.map ev a.toList).toArray = a.map ev := by apply Array.ext'; simp
      have ec : (List.map ev c.toList).toArray = c.map ev := by apply Array.ext'; simp
      rw [ea, ec]
    · cases h
  case fieldAddr s x f =>
    split at h
    · rename_i a ha
      obtain ⟨z, h1, h2⟩ := afda_ok h (hρ _ _ ha)
      exact ⟨z, h1, fun w => by simp [h2]⟩
    · cases h
  case field t x f =>
    split at h
    · rename_i a ha
      obtain ⟨z, h1, h2⟩ := afld_ok h (hρ _ _ ha)
      exact ⟨z, h1, fun w => by simp [h2]⟩
    · cases h
  case indexAddr t x ix =>
    split at h
    · rename_i a i ha hi
      obtain ⟨k, hk⟩ := bd_ok hρ hi
      obtain ⟨z, h1, h2⟩ := aixa_ok h (hρ _ _ ha) k
      exact ⟨z, h1, fun w => by simp [hk, h2]⟩
    · cases h
  case index t x ix =>
    split at h
    · rename_i a i ha hi
      obtain ⟨k, hk⟩ := bd_ok hρ hi
      obtain ⟨z, h1, h2⟩ := aidx_ok h (hρ _ _ ha) k
      exact ⟨z, h1, fun w => by simp [hk, h2]⟩
    · cases h
  case slice t x lo hi mx =>
    split at h
    · rename_i a ha
      obtain ⟨z, h1, h2⟩ := asli_ok hρ h (hρ _ _ ha)
      exact ⟨z, h1, fun w => by simp [h2]⟩
    · cases h
  case extract x i =>
    split at h
    · rename_i l hx
      have := hρ _ _ hx
      simp only [cvo, Option.map_eq_some_iff] at this
      obtain ⟨vs, hl, e⟩ := this
      rw [nth_eq] at h
      obtain ⟨z, h1, h2⟩ := cvs_get hl h
      exact ⟨z, h2, fun w => by simp [← e, Instr.extract, h1]⟩
    · cases h
  case build t ps =>
    split at h
    · rename_i l hl
      have hp := aprt_ok hρ hl
      obtain ⟨z, h1, h2⟩ := abuild_ok (qs := ps.map fun x => (x.1, ev x.2)) h (by simpa using hp)
      exact ⟨z, h1, fun w => by simp [h2]⟩
    · cases h
  case call c =>
    split at h
    · rename_i b hb
      split at h
      · rename_i as has
        obtain ⟨z, h1, h2⟩ := abul_ok h (amap_ok hρ has) type (c.args.map fun | .const _ => true | _ => false)
        refine ⟨z, h1, fun w => ?_⟩
        have e : (c.args.toList.map ev).toArray = c.args.map ev := by apply Array.ext'; simp
        rw [e] at h2
        simp only [resolve, hb, Sem.run_bind, Sem.run_pure, Result.andThen_ok, invoke]
        exact h2 w
      · cases h
    · cases h
end
end Am
