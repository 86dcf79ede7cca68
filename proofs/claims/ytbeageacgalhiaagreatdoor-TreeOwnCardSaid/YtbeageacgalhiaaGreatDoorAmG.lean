/- A machine for closed runs: all operations that ask no memory. No program in sight. -/
import Derived.Test.YtbeageacgalhiaaGreatDoorAmF
set_option linter.unusedVariables false
set_option linter.unusedSimpArgs false
namespace Am
open Go
noncomputable section
variable {P : Program}

def putR (off : Nat) (l cells : List AV) : List AV := lapp (tke off cells) (lapp l (drp (Nat.add off (len l)) cells))
theorem putR_eq (off : Nat) (l cells : List AV) : putR off l cells = tke off cells ++ (l ++ drp (off + len l) cells) := by unfold putR; rw [lapp_eq, lapp_eq]; rfl
theorem fold_put (off : Nat) : ∀ (l : List Value) (k : Nat) (cells : Array Value), off + k + l.length ≤ cells.size →
    (l.zipIdx k).foldl (fun cs (x : Value × Nat) => cs.setIfInBounds (off + x.2) x.1) cells = (cells.toList.take (off + k) ++ (l ++ cells.toList.drop (off + k + l.length))).toArray
  | [], k, cells, h => by simp
  | c :: l, k, cells, h => by
    simp only [List.length_cons] at h
    simp only [List.zipIdx_cons, List.foldl_cons]
    rw [fold_put off l (k + 1) _ (by simp; omega)]
    have hlt : off + k < cells.toList.length := by simp; omega
    congr 1
    simp only [Array.toList_setIfInBounds]
    rw [show off + (k + 1) = off + k + 1 by omega, List.take_add_one, List.getElem?_set_self hlt, List.take_set_of_le (Nat.le_refl _), List.drop_set_of_lt (by omega)]
    simp only [Option.toList_some, List.append_assoc, List.cons_append, List.nil_append, List.length_cons]
    rw [show off + k + 1 + l.length = off + k + (l.length + 1) by omega]
def afill (pl : Nat → Option (Nat × Nat)) : List (Nat × AV) → List AV → Option (List AV)
  | [], cells => some cells
  | (i, v) :: rest, cells => match pl i with
    | none => none
    | some (off, n) => bif Nat.beq (len (cel v)) n && Nat.ble (off + n) (len cells) then afill pl rest (putR off (cel v) cells) else none
def PartsOk (m : Map) : List (Nat × AV) → List (Nat × Value) → Prop := F2 (fun x y => x.1 = y.1 ∧ cvo m x.2 = some y.2)
theorem afill_ok {m : Map} {pl : Nat → Option (Nat × Nat)} : ∀ {ps : List (Nat × AV)} {qs : List (Nat × Value)} {cells r : List AV} {vs : List Value}, PartsOk m ps qs → cvs m cells = some vs → afill pl ps cells = some r →
    ∃ us, Instr.fill pl vs.toArray qs = some us.toArray ∧ cvs m r = some us ∧ us.length = vs.length
  | _, _, cells, r, vs, .nil, hc, h => by
    simp [afill] at h; subst h; exact ⟨vs, rfl, hc, rfl⟩
  | (i, a) :: ps, (j, v) :: qs, cells, r, vs, .cons h1 h2, hc, h => by
    obtain ⟨hij, hv⟩ := h1
    simp only at hij hv
    subst hij
    simp only [afill] at h
    split at h
    · cases h
    · rename_i off n hpl
      cases hb : (Nat.beq (len (cel a)) n && Nat.ble (off + n) (len cells)) with
      | false => rw [hb] at h; cases h
      | true =>
        rw [hb, cond_true] at h
        rw [Bool.and_eq_true, Nat.beq_eq, Nat.ble_eq, len_eq, len_eq] at hb
        have hcl := cel_ok hv
        have e1 := cvs_length hcl
        have e2 := cvs_length hc
        have hnew : cvs m (putR off (cel a) cells) = some (vs.take off ++ (v.cells.toList ++ vs.drop (off + v.cells.toList.length))) := by
          rw [putR_eq, tke_eq, drp_eq, len_eq, ← e1]
          exact cvs_append (cvs_take _ hc) (cvs_append hcl (cvs_drop _ hc))
        obtain ⟨us, f1, f2, f3⟩ := afill_ok h2 hnew h
        refine ⟨us, ?_, f2, ?_⟩
        · simp only [Instr.fill, hpl]
          have c1 : v.cells.size = n := by rw [← Array.length_toList]; omega
          have c2 : off + n ≤ vs.length := by omega
          rw [if_neg (by simp [c1, c2])]
          rw [← f1]
          congr 1
          rw [← Array.foldl_toList, Array.toList_zipIdx]
          have := fold_put off v.cells.toList 0 vs.toArray (by simp; rw [← Array.length_toList]; omega)
          simpa using this
        · rw [f3]; simp only [List.length_append, List.length_take, List.length_drop]; omega
def fsz (P : Program) : List Field → Option (List (Nat × Nat))
  | [] => some []
  | f :: r => match szo P f.type with
    | none => none
    | some n => match fsz P r with
      | none => none
      | some l => some ((f.offset, n) :: l)
theorem fsz_ok : ∀ {fs : List Field} {l : List (Nat × Nat)}, fsz P fs = some l → ∀ w, (fs.mapM (fun f => (do pure (f.offset, ← Go.sizeOf f.type) : Sem (Nat × Nat)))).run P w = .ok l w
  | [], l, h, w => by simp [fsz] at h; subst h; rfl
  | f :: fs, l, h, w => by
    simp only [fsz] at h
    split at h
    · cases h
    · rename_i n hn
      split at h
      · cases h
      · rename_i l' hl
        obtain rfl := Option.some.inj h
        rw [List.mapM_cons]
        simp only [Sem.run_bind, run_szo hn, Result.andThen_ok, Sem.run_pure, fsz_ok hl w]

def aprt (ρ : Rho) : List (Nat × Operand) → Option (List (Nat × AV))
  | [] => some []
  | (i, x) :: r => match ρ x with
    | none => none
    | some a => match aprt ρ r with
      | none => none
      | some l => some ((i, a) :: l)
theorem aprt_ok {m : Map} {ρ : Rho} {ev : Operand → Value} (hρ : RhoOk m ρ ev) : ∀ {ps : List (Nat × Operand)} {l : List (Nat × AV)}, aprt ρ ps = some l → PartsOk m l (ps.map fun x => (x.1, ev x.2))
  | [], l, h => by simp [aprt] at h; subst h; exact .nil
  | (i, x) :: r, l, h => by
    simp only [aprt] at h
    split at h
    · cases h
    · rename_i a ha
      split at h
      · cases h
      · rename_i l' hl
        obtain rfl := Option.some.inj h
        exact .cons ⟨rfl, hρ _ _ ha⟩ (aprt_ok hρ hl)
def obl (x : Option AV) (y : Option (List AV)) : Option (List AV) := Option.rec (motive := fun _ => Option (List AV)) none (fun a => Option.rec (motive := fun _ => Option (List AV)) none (fun l => some (a :: l)) y) x
theorem obl_some {x : Option AV} {y : Option (List AV)} {r : List AV} (h : obl x y = some r) : ∃ a l, x = some a ∧ y = some l ∧ r = a :: l := by
  cases x with
  | none => cases h
  | some a => cases y with
    | none => cases h
    | some l => exact ⟨a, l, rfl, rfl, (Option.some.inj h).symm⟩
def amapT : List Operand → Rho → Option (List AV) := List.rec (motive := fun _ => Rho → Option (List AV)) (fun _ => some []) (fun x _ ih ρ => obl (ρ x) (ih ρ))
def amap (ρ : Rho) (l : List Operand) : Option (List AV) := amapT l ρ
theorem amap_ok {m : Map} {ρ : Rho} {ev : Operand → Value} (hρ : RhoOk m ρ ev) : ∀ {ps : List Operand} {l : List AV}, amap ρ ps = some l → cvs m l = some (ps.map ev)
  | [], l, h => by
    have h : some [] = some l := h
    obtain rfl := Option.some.inj h; rfl
  | x :: r, l, h => by
    obtain ⟨a, l', ha, hl, rfl⟩ := obl_some (x := ρ x) (y := amap ρ r) h
    exact cvs_cons.2 ⟨_, _, hρ _ _ ha, amap_ok hρ hl, rfl⟩

/-- struct or array out of its parts -/
def abuild (P : Program) (t : TypeId) (ps : List (Nat × AV)) : Option AV :=
  match zero P t, und P t with
  | some z, some (.struct fs) => match fsz P fs.toList with
    | some l => (afill (nth l) ps (cel z)).map .ag
    | none => none
  | some z, some (.array _ e) => match szo P e with
    | some n => (afill (fun i => some (i * n, n)) ps (cel z)).map .ag
    | none => none
  | _, _ => none
theorem abuild_ok {m : Map} {t : TypeId} {ps : List (Nat × AV)} {qs : Array (Nat × Value)} {r : AV} (h : abuild P t ps = some r) (hp : PartsOk m ps qs.toList) :
    ∃ z, cvo m r = some z ∧ ∀ w, (Instr.build t qs).run P w = .ok z w := by
  unfold abuild at h
  split at h
  · rename_i z fs hz ht
    split at h
    · rename_i l hl
      rw [Option.map_eq_some_iff] at h
      obtain ⟨cs, h1, rfl⟩ := h
      obtain ⟨v, hv, hzv⟩ := zero_ok hz m
      obtain ⟨us, f1, f2, _⟩ := afill_ok hp (cel_ok hv) h1
      refine ⟨.agg us.toArray, by simp [cvo, f2], fun w => ?_⟩
      have hn : (fun i => (l.toArray)[i]?) = nth l := by funext i; rw [nth_eq]; simp
      have hpl : (fs.mapM (fun f => (do pure (f.offset, ← Go.sizeOf f.type) : Sem (Nat × Nat)))).run P w = .ok l.toArray w := by
        rw [Array.mapM_eq_mapM_toList, Sem.run_map, fsz_ok hl w]; rfl
      unfold Instr.build
      simp only [Sem.run_bind, hzv, run_und ht, Result.andThen_ok, hpl]
      have f1' : Instr.fill (fun x => l.toArray[x]?) v.cells qs.toList = some us.toArray := by
        rw [hn]; simpa using f1
      rw [f1']; rfl
    · cases h
  · rename_i z ln e hz ht
    split at h
    · rename_i n hn
      rw [Option.map_eq_some_iff] at h
      obtain ⟨cs, h1, rfl⟩ := h
      obtain ⟨v, hv, hzv⟩ := zero_ok hz m
      obtain ⟨us, f1, f2, _⟩ := afill_ok hp (cel_ok hv) h1
      refine ⟨.agg us.toArray, by simp [cvo, f2], fun w => ?_⟩
      unfold Instr.build
      simp only [Sem.run_bind, hzv, run_und ht, Result.andThen_ok, run_szo hn]
      have f1' : Instr.fill (fun i => some (i * n, n)) v.cells qs.toList = some us.toArray := by simpa using f1
      rw [f1']; rfl
    · cases h
  · cases h

def amm (mx : Bool) : List AV → AV → Option AV
  | [], a => some a
  | .i _ y :: r, .i k x => amm mx r (.i k (bif (bif mx then ilt x y else ilt y x) then y else x))
  | _ :: _, _ => none
theorem amm_max {m : Map} : ∀ {l : List AV} {vs : List Value} {a r : AV} {v : Value}, cvs m l = some vs → cvo m a = some v → amm true l a = some r → ∃ z, cvo m r = some z ∧ ∀ w, (vs.foldlM Builtin.max2 v).run P w = .ok z w
  | [], vs, a, r, v, hl, ha, h => by
    simp [cvs] at hl; subst hl
    simp [amm] at h; subst h
    exact ⟨v, ha, fun w => rfl⟩
  | b :: l, vs, a, r, v, hl, ha, h => by
    obtain ⟨u, us, h1, h2, rfl⟩ := cvs_cons.1 hl
    cases b <;> cases a <;> simp only [amm, reduceCtorEq] at h
    · rename_i k' y k x
      simp only [cvo, Option.some.injEq] at h1 ha
      subst h1 ha
      obtain ⟨z, f1, f2⟩ := amm_max h2 (v := .int k (if y > x then y else x)) (by
        simp only [cvo, ilt_eq, cond_true]
        by_cases hh : x < y <;> simp [hh]) h
      refine ⟨z, f1, fun w => ?_⟩
      rw [List.foldlM_cons, Sem.run_bind]
      simp only [Builtin.max2, Sem.run_pure, Result.andThen_ok, f2]
theorem amm_min {m : Map} : ∀ {l : List AV} {vs : List Value} {a r : AV} {v : Value}, cvs m l = some vs → cvo m a = some v → amm false l a = some r → ∃ z, cvo m r = some z ∧ ∀ w, (vs.foldlM Builtin.min2 v).run P w = .ok z w
  | [], vs, a, r, v, hl, ha, h => by
    simp [cvs] at hl; subst hl
    simp [amm] at h; subst h
    exact ⟨v, ha, fun w => rfl⟩
  | b :: l, vs, a, r, v, hl, ha, h => by
    obtain ⟨u, us, h1, h2, rfl⟩ := cvs_cons.1 hl
    cases b <;> cases a <;> simp only [amm, reduceCtorEq] at h
    · rename_i k' y k x
      simp only [cvo, Option.some.injEq] at h1 ha
      subst h1 ha
      obtain ⟨z, f1, f2⟩ := amm_min h2 (v := .int k (if y < x then y else x)) (by
        simp only [cvo, ilt_eq, cond_false]
        by_cases hh : y < x <;> simp [hh]) h
      refine ⟨z, f1, fun w => ?_⟩
      rw [List.foldlM_cons, Sem.run_bind]
      simp only [Builtin.min2, Sem.run_pure, Result.andThen_ok, f2]
end
end Am
