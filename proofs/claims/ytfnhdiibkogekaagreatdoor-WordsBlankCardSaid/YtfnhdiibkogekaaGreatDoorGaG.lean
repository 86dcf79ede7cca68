/- A machine for closed runs: a region whose order is drawn: masks, places, what a reckoning leaves. No program in sight. -/
import Derived.Test.YtfnhdiibkogekaaGreatDoorGaF
set_option linter.unusedVariables false
set_option linter.unusedSimpArgs false
section
namespace Am
open Go
noncomputable section
variable {P : Program} {K : Known}

theorem mk1_bit {acc : List Nat} {o : Oper} {i : Nat} (h : (mk1 acc o).testBit i = true) : ∃ e ∈ o.after.toList, Region.binds .any e = true ∧ (e.on = i ∨ ∃ x, acc[e.on]? = some x ∧ x.testBit i = true) := by
  have key : ∀ (l : List Edge) (s : Nat), (l.foldl (fun s e => bif Region.binds .any e then Nat.lor s (Nat.lor (Nat.shiftLeft 1 e.on) ((nth acc e.on).getD 0)) else s) s).testBit i = true →
      s.testBit i = true ∨ ∃ e ∈ l, Region.binds .any e = true ∧ (e.on = i ∨ ∃ x, acc[e.on]? = some x ∧ x.testBit i = true) := by
    intro l
    induction l with
    | nil => intro s hs; exact .inl hs
    | cons e l ih =>
      intro s hs
      rw [List.foldl_cons] at hs
      rcases ih _ hs with h1 | ⟨e', h1, h2⟩
      · cases hb : Region.binds .any e with
        | false => rw [hb, cond_false] at h1; exact .inl h1
        | true =>
          rw [hb, cond_true] at h1
          have h1' : (s ||| ((1 <<< e.on) ||| ((nth acc e.on).getD 0))).testBit i = true := h1
          rw [Nat.testBit_or, Nat.testBit_or, Nat.one_shiftLeft, Nat.testBit_two_pow] at h1'
          rcases Bool.or_eq_true _ _ ▸ h1' with h2 | h2
          · exact .inl h2
          · right
            refine ⟨e, List.mem_cons_self, hb, ?_⟩
            rcases Bool.or_eq_true _ _ ▸ h2 with h3 | h3
            · exact .inl (of_decide_eq_true h3)
            · right
              rw [nth_eq] at h3
              cases hx : acc[e.on]? with
              | none => rw [hx] at h3; simp at h3
              | some x => rw [hx] at h3; exact ⟨x, rfl, h3⟩
      · exact .inr ⟨e', List.mem_cons_of_mem _ h1, h2⟩
  rcases key _ _ h with h1 | h1
  · simp at h1
  · exact h1
theorem mks_spec : ∀ (l : List Oper) (acc : List Nat), (∃ tail, mks l acc = acc ++ tail) ∧ (mks l acc).length = acc.length + l.length ∧ ∀ j o, l[j]? = some o → (mks l acc)[acc.length + j]? = some (mk1 ((mks l acc).take (acc.length + j)) o)
  | [], acc => ⟨⟨[], by simp [mks]⟩, by simp [mks], fun j o h => by simp at h⟩
  | o :: l, acc => by
    obtain ⟨⟨tail, h1⟩, h2, h3⟩ := mks_spec l (acc ++ [mk1 acc o])
    have e : mks (o :: l) acc = mks l (acc ++ [mk1 acc o]) := rfl
    refine ⟨⟨mk1 acc o :: tail, by rw [e, h1]; simp⟩, by rw [e, h2]; simp; omega, fun j o' hj => ?_⟩
    rw [e]
    cases j with
    | zero =>
      obtain rfl : o = o' := by simpa using hj
      rw [h1, Nat.add_zero]
      rw [List.append_assoc, List.getElem?_append_right (Nat.le_refl _), Nat.sub_self, List.take_left']
      · rfl
      · rfl
    | succ j =>
      have := h3 j o' (by simpa using hj)
      rw [List.length_append, List.length_singleton] at this
      rw [show acc.length + (j + 1) = acc.length + 1 + j by omega]
      exact this
theorem mask_closed {ops : Array Oper} {ins : Nat → Prop} (hc : ∀ j o, ops[j]? = some o → ins j → ∀ e ∈ o.after.toList, Region.binds .any e = true → ins e.on) :
    ∀ (j : Nat) (o : Oper), ops[j]? = some o → (∀ e ∈ o.after.toList, Region.binds .any e = true → ins e.on) → ∀ i, tb (mOf (mks ops.toList []) j) i = true → ins i := by
  intro j
  induction j using Nat.strongRecOn with
  | _ j IH =>
    intro o ho hp i hi
    obtain ⟨_, h2, h3⟩ := mks_spec ops.toList []
    have hj := h3 j o (by rw [Array.getElem?_toList]; exact ho)
    simp only [List.length_nil, Nat.zero_add] at hj h2
    rw [tb_eq, mOf, nth_eq, hj, Option.getD_some] at hi
    obtain ⟨e, he, hb, h4⟩ := mk1_bit hi
    have hins := hp e he hb
    rcases h4 with rfl | ⟨x, h5, h6⟩
    · exact hins
    · rw [List.getElem?_take] at h5
      split at h5
      · rename_i hlt
        have hjl : j < ops.size := (Array.getElem?_eq_some_iff.1 ho).1
        have hel : e.on < ops.size := by omega
        refine IH e.on hlt (ops[e.on]'hel) (by simp [hel]) (hc e.on _ (by simp [hel]) hins) i ?_
        rw [tb_eq, mOf, nth_eq, h5, Option.getD_some]; exact h6
      · cases h5
theorem memb_eq (x : Nat) : ∀ l : List Nat, memb x l = true ↔ x ∈ l
  | [] => by simp [memb]
  | a :: l => by
    have e : memb x (a :: l) = (Nat.beq x a || memb x l) := rfl
    rw [e, Bool.or_eq_true, Nat.beq_eq, memb_eq x l, List.mem_cons]
theorem chkPos_at {ops : Array Oper} {M : List Nat} : ∀ {A : List Nat} {pre : List Nat} {x : Nat} {B : List Nat}, chkPos ops M pre (A ++ x :: B) = true → posOk ops M (A.reverse ++ pre) x B = true
  | [], pre, x, B, h => by
    simp only [List.nil_append, chkPos, Bool.and_eq_true] at h
    simpa using h.1
  | a :: A, pre, x, B, h => by
    simp only [List.cons_append, chkPos, Bool.and_eq_true] at h
    have := chkPos_at h.2
    simpa using this

/-- one operation of a reckoning -/
structure RecOk (P : Program) (K : Known) (ih : Code → Nat → Env → St → Ex) (ops : Array Oper) (n : Nat) (r : Rec) (e : Env) : Prop where
  at_ : ops[r.i]? = some r.o
  put : aput n r.env r.o.dst r.v = some e
  does : (awant ops.toList r.env r.o = some true ∧ aopk P K ih r.S (rstR (r.o.looksAt ops) (evo K r.env)) r.o.op = .ok r.k r.v r.S' r.blk ∧ (r.k = 3 → stW r.o.op = true)) ∨
    (awant ops.toList r.env r.o = some false ∧ r.v = .tp [] ∧ r.k = 0 ∧ r.S' = r.S)
inductive Run (P : Program) (K : Known) (ih : Code → Nat → Env → St → Ex) (ops : Array Oper) (n : Nat) : List Rec → Env → St → Env → St → Prop
  | nil {e S} : Run P K ih ops n [] e S e S
  | cons {r L e1 e2 S2} : RecOk P K ih ops n r e1 → Run P K ih ops n L e1 r.S' e2 S2 → Run P K ih ops n (r :: L) r.env r.S e2 S2
variable {ih : Code → Nat → Env → St → Ex} {ops : Array Oper} {n : Nat}
theorem arun_ok {id : Nat} : ∀ {ord : List Nat} {env env' : Env} {S S' : St} {L : List Rec}, arun P K ih ops n id ord env S = .ok L env' S' → Run P K ih ops n L env S env' S' ∧ L.map (·.i) = ord
  | [], env, env', S, S', L, h => by simp only [arun, Rn.ok.injEq] at h; obtain ⟨rfl, rfl, rfl⟩ := h; exact ⟨.nil, rfl⟩
  | i :: ord, env, env', S, S', L, h => by
    simp only [arun] at h
    split at h
    · cases h
    rename_i o ho
    rw [nth_eq, Array.getElem?_toList] at ho
    split at h
    · rename_i hw
      split at h
      · rename_i k v S1 b hop
        cases hst : (bif Nat.beq k 3 then stW o.op else true) with
        | false => rw [hst] at h; cases h
        | true =>
        rw [hst, cond_true] at h
        split at h
        · rename_i env1 hp
          split at h
          · rename_i l e s hl
            simp only [Rn.ok.injEq] at h
            obtain ⟨rfl, rfl, rfl⟩ := h
            obtain ⟨h1, h2⟩ := arun_ok hl
            refine ⟨.cons (r := ⟨i, o, env, S, v, k, S1, b⟩) ⟨ho, hp, .inl ⟨hw, hop, fun hk => ?_⟩⟩ h1, by simp [h2]⟩
            simp only at hk
            subst hk
            exact hst
          · cases h
        · cases h
      · cases h
    · rename_i hw
      split at h
      · rename_i env1 hp
        split at h
        · rename_i l e s hl
          simp only [Rn.ok.injEq] at h
          obtain ⟨rfl, rfl, rfl⟩ := h
          obtain ⟨h1, h2⟩ := arun_ok hl
          exact ⟨.cons (r := ⟨i, o, env, S, .tp [], 0, S, .it 0 0 0⟩) ⟨ho, hp, .inr ⟨hw, rfl, rfl, rfl⟩⟩ h1, by simp [h2]⟩
        · cases h
      · cases h
    · cases h
theorem Run.split : ∀ {A B : List Rec} {e e2 : Env} {S S2 : St}, Run P K ih ops n (A ++ B) e S e2 S2 → ∃ e1 S1, Run P K ih ops n A e S e1 S1 ∧ Run P K ih ops n B e1 S1 e2 S2
  | [], B, e, e2, S, S2, h => ⟨e, S, .nil, h⟩
  | r :: A, B, e, e2, S, S2, h => by
    cases h with
    | cons h1 h2 =>
      obtain ⟨e1, S1, h3, h4⟩ := Run.split h2
      exact ⟨e1, S1, .cons h1 h3, h4⟩
theorem Run.join : ∀ {A B : List Rec} {e e1 e2 : Env} {S S1 S2 : St}, Run P K ih ops n A e S e1 S1 → Run P K ih ops n B e1 S1 e2 S2 → Run P K ih ops n (A ++ B) e S e2 S2
  | [], B, e, e1, e2, S, S1, S2, h, k => by cases h; exact k
  | r :: A, B, e, e1, e2, S, S1, S2, h, k => by
    cases h with
    | cons h1 h2 => exact .cons h1 (h2.join k)
/-- what the kinds of an operation say -/
theorem aopk_cases {S S' : St} {ρ : Rho} {o : Op} {k : Nat} {v : AV} {blk : Blk} (hS : Sound P K ih) (h : aopk P K ih S ρ o = .ok k v S' blk) :
    (k = 0 ∧ apure P ρ o = some v ∧ S' = S) ∨ (k = 1 ∧ ard P S.lk ρ o = some v ∧ S' = S) ∨
    (k = 2 ∧ (∃ f, aalloc P ρ o = some (blk, f) ∧ v = f S.nx) ∧ K.g ≤ S.nx ∧ S' = ⟨S.h.put (some blk) S.nx, S.nx + 1⟩) ∨
    (k = 3 ∧ S.nx ≤ S'.nx ∧ (awr P K.g S ρ o = some (v, S') ∨ ∃ f as, acallee ρ o = some (f, as) ∧ acallf P K ih S f as = .ok v S')) := by
  unfold aopk at h
  split at h
  · rename_i hv
    simp only [Kl.ok.injEq] at h
    obtain ⟨rfl, rfl, rfl, _⟩ := h
    exact .inl ⟨rfl, hv, rfl⟩
  split at h
  · rename_i hv
    simp only [Kl.ok.injEq] at h
    obtain ⟨rfl, rfl, rfl, _⟩ := h
    exact .inr (.inl ⟨rfl, hv, rfl⟩)
  split at h
  · rename_i b f hv
    cases hb : Nat.ble K.g S.nx with
    | false => rw [hb] at h; cases h
    | true =>
    rw [hb, cond_true] at h
    rw [Nat.ble_eq] at hb
    simp only [Kl.ok.injEq] at h
    obtain ⟨rfl, rfl, rfl, rfl⟩ := h
    exact .inr (.inr (.inl ⟨rfl, ⟨f, hv, rfl⟩, hb, rfl⟩))
  split at h
  · rename_i v1 S1 hv
    cases hb : Nat.ble S.nx S1.nx with
    | false => rw [hb] at h; cases h
    | true =>
    rw [hb, cond_true] at h
    rw [Nat.ble_eq] at hb
    simp only [Kl.ok.injEq] at h
    obtain ⟨rfl, rfl, rfl, _⟩ := h
    exact .inr (.inr (.inr ⟨rfl, hb, .inl hv⟩))
  split at h
  · rename_i f as hc
    split at h
    · rename_i v1 S1 hv
      simp only [Kl.ok.injEq] at h
      obtain ⟨rfl, rfl, rfl, _⟩ := h
      have hcl : S.nx ≤ S1.nx := by
        -- the number of the next block never falls
        unfold acallf at hv
        cases he : K.enter f with
        | false =>
          rw [he, cond_false] at hv
          split at hv
          · rename_i hx; cases hv; exact aext_le hx
          · cases hv
        | true =>
          rw [he, cond_true] at hv
          split at hv
          · cases hv
          rename_i fn hfn
          split at hv
          · cases hv
          rename_i c hc
          cases hb : Nat.ble (len as) fn.ntmps with
          | false => rw [hb] at hv; cases hv
          | true =>
          rw [hb, cond_true] at hv
          split at hv
          · cases hv
          · rename_i hi
            split at hv
            · cases hv; exact (hS _ _ _ _ _ _ _ hi).1
            · cases hv
          · rename_i hi
            split at hv
            · cases hv; exact (hS _ _ _ _ _ _ _ hi).1
            · cases hv
          · cases hv
      exact .inr (.inr (.inr ⟨rfl, hcl, .inr ⟨f, as, hc, hv⟩⟩))
    · cases h
  · cases h
theorem RecOk.le (hS : Sound P K ih) {r : Rec} {e : Env} (h : RecOk P K ih ops n r e) : r.S.nx ≤ r.S'.nx ∧ (r.k = 2 → r.S'.nx = r.S.nx + 1) ∧ (r.k = 0 ∨ r.k = 1 → r.S' = r.S) ∧ (r.k = 2 → r.S' = ⟨r.S.h.put (some r.blk) r.S.nx, r.S.nx + 1⟩) ∧ (r.k = 0 ∨ r.k = 1 ∨ r.k = 2 ∨ r.k = 3) := by
  rcases h.does with ⟨_, h1, _⟩ | ⟨_, _, h1, h2⟩
  · rcases aopk_cases hS h1 with ⟨h2, _, h3⟩ | ⟨h2, _, h3⟩ | ⟨h2, _, _, h3⟩ | ⟨h2, h3, _⟩
    · exact ⟨by rw [h3]; exact Nat.le_refl _, fun h => by omega, fun _ => h3, fun h => by omega, by omega⟩
    · exact ⟨by rw [h3]; exact Nat.le_refl _, fun h => by omega, fun _ => h3, fun h => by omega, by omega⟩
    · exact ⟨by rw [h3]; exact Nat.le_succ _, fun _ => by rw [h3], fun h => by omega, fun _ => h3, by omega⟩
    · exact ⟨h3, fun h => by omega, fun h => by omega, fun h => by omega, by omega⟩
  · exact ⟨by rw [h2]; exact Nat.le_refl _, fun h => by omega, fun _ => h2, fun h => by omega, by omega⟩
theorem Run.le (hS : Sound P K ih) : ∀ {L : List Rec} {e e2 : Env} {S S2 : St}, Run P K ih ops n L e S e2 S2 → S.nx ≤ S2.nx
  | _, _, _, _, _, .nil => Nat.le_refl _
  | _, _, _, _, _, .cons h1 h2 => Nat.le_trans (h1.le hS).1 (h2.le hS)
theorem Run.mem (hS : Sound P K ih) : ∀ {L : List Rec} {e e2 : Env} {S S2 : St}, Run P K ih ops n L e S e2 S2 → ∀ r ∈ L, S.nx ≤ r.S.nx ∧ r.S'.nx ≤ S2.nx ∧ ∃ e1, RecOk P K ih ops n r e1
  | _, _, _, _, _, .nil, r, h => by cases h
  | _, _, _, _, _, .cons (r := r0) h1 h2, r, h => by
    rcases List.mem_cons.1 h with rfl | h
    · exact ⟨Nat.le_refl _, h2.le hS, _, h1⟩
    · obtain ⟨a, b, c⟩ := h2.mem hS r h
      exact ⟨Nat.le_trans (h1.le hS).1 a, b, c⟩
/-- blocks behind a reckoning without writes -/
theorem Run.lks (hS : Sound P K ih) : ∀ {L : List Rec} {e e2 : Env} {S S2 : St}, Run P K ih ops n L e S e2 S2 → (∀ r ∈ L, r.k ≠ 3) → ∀ id b, S2.lk id = some b → S.lk id = some b ∨ ∃ r ∈ L, r.k = 2 ∧ r.S.nx = id ∧ r.blk = b
  | _, _, _, _, _, .nil, _, id, b, h => .inl h
  | _, _, _, _, _, .cons (r := r) h1 h2, hk, id, b, h => by
    obtain ⟨_, _, q3, q4, q5⟩ := h1.le hS
    rcases h2.lks hS (fun r' hr' => hk r' (List.mem_cons_of_mem _ hr')) id b h with h3 | ⟨r', h3, h4⟩
    · have := hk r List.mem_cons_self
      rcases q5 with q | q | q | q
      · rw [q3 (.inl q)] at h3; exact .inl h3
      · rw [q3 (.inr q)] at h3; exact .inl h3
      · rw [q4 q] at h3
        rcases T.get_put _ _ _ _ h3 with ⟨rfl, rfl⟩ | ⟨_, h5⟩
        · exact .inr ⟨r, List.mem_cons_self, q, rfl, rfl⟩
        · exact .inl h5
      · exact absurd q this
    · exact .inr ⟨r', List.mem_cons_of_mem _ h3, h4⟩

/-- what the places hold, of those operations that ran -/
def updF (f : Nat → Option AV) (d : Option Tmp) (v : AV) : Nat → Option AV := fun t => if d = some t then some v else f t
def foldE (p : Nat → Bool) : List Rec → (Nat → Option AV) → (Nat → Option AV)
  | [], f => f
  | r :: L, f => foldE p L (if p r.i then updF f r.o.dst r.v else f)
theorem foldE_append (p : Nat → Bool) : ∀ (A B : List Rec) (f : Nat → Option AV), foldE p (A ++ B) f = foldE p B (foldE p A f)
  | [], B, f => rfl
  | r :: A, B, f => foldE_append p A B _
theorem foldE_same {p q : Nat → Bool} {t : Nat} : ∀ {L : List Rec} {f g : Nat → Option AV}, (∀ r ∈ L, r.o.dst = some t → p r.i = q r.i) → f t = g t → foldE p L f t = foldE q L g t
  | [], f, g, h, e => e
  | r :: L, f, g, h, e => by
    show foldE p L (if p r.i then updF f r.o.dst r.v else f) t = foldE q L (if q r.i then updF g r.o.dst r.v else g) t
    refine foldE_same (fun r' hr' => h r' (List.mem_cons_of_mem _ hr')) ?_
    by_cases hd : r.o.dst = some t
    · rw [h r List.mem_cons_self hd]
      cases q r.i <;> simp [updF, hd, e]
    · cases hp : p r.i <;> cases hq : q r.i <;> simp [updF, hd, e]
theorem foldE_none {p : Nat → Bool} {t : Nat} : ∀ {L : List Rec} {f : Nat → Option AV}, (∀ r ∈ L, r.o.dst = some t → p r.i = false) → foldE p L f t = f t
  | [], f, h => rfl
  | r :: L, f, h => by
    rw [foldE, foldE_none (fun r' hr' => h r' (List.mem_cons_of_mem _ hr'))]
    by_cases hd : r.o.dst = some t
    · rw [h r List.mem_cons_self hd]; rfl
    · cases p r.i <;> simp [updF, hd]
theorem Run.env {L : List Rec} {e e2 : Env} {S S2 : St} (hr : Run P K ih ops n L e S e2 S2) : ∀ (f : Nat → Option AV), (∀ t a, eget e t = some a → f t = some a) → ∀ t a, eget e2 t = some a → foldE (fun _ => true) L f t = some a := by
  induction hr with
  | nil => intro f hf t a h; exact hf t a h
  | cons h1 h2 ihh =>
    rename_i r L e1 e2 S2
    intro f hf t a h
    refine ihh _ (fun t a hta => ?_) t a h
    have hp := aput_upd h1.put
    simp only [if_true]
    cases hd : r.o.dst with
    | none =>
      rw [hd] at hp
      obtain rfl : e1 = r.env := hp
      simp only [updF, hd, reduceCtorEq, if_false]
      exact hf t a hta
    | some d =>
      rw [hd] at hp
      rcases hp.2 t a hta with ⟨rfl, rfl⟩ | ⟨hne, h3⟩
      · simp [updF, hd]
      · have : ¬ (r.o.dst = some t) := by rw [hd]; intro e; exact hne (Option.some.inj e).symm
        have e : d ≠ t := fun e => hne e.symm
        simp only [updF, hd, Option.some.injEq, e, if_false]
        exact hf t a h3
end
end Am
end
section
namespace Am
open Go
noncomputable section
variable {P : Program} {K : Known} {ih : Code → Nat → Env → St → Ex} {ops : Array Oper} {n : Nat}

def EnvOn (m : Map) (env : Env) (tmps : Array Value) (T : List Tmp) : Prop := ∀ t ∈ T, ∀ a, eget env t = some a → ∃ v, tmps[t]? = some v ∧ cvo m a = some v
theorem awant_on {m : Map} {env : Env} {tmps : Array Value} {o : Oper} {b : Bool} (hE : EnvOn m env tmps (o.looksAt ops)) (h : awant ops.toList env o = some b) : Region.wanted o (yielded ops tmps) = b := by
  unfold Region.wanted
  rcases awant_iff h with ⟨hg, rfl⟩ | ⟨j, wnt, hg, h⟩
  · rw [hg]
  · rw [hg]
    unfold awant1 at h
    split at h
    · rename_i oj hj
      rw [nth_eq, Array.getElem?_toList] at hj
      split at h
      · rename_i t ht
        have hmem : t ∈ o.looksAt ops := by simp [Oper.looksAt, hg, hj, ht]
        split at h
        · rename_i x hx
          obtain rfl := Option.some.inj h
          obtain ⟨v, h1, h2⟩ := hE t hmem _ hx
          simp only [cvo, Option.some.injEq] at h2; subst h2
          simp only [yielded, hj, Option.bind_some, ht, h1]
          cases x <;> cases wnt <;> rfl
        · rename_i l hx
          obtain rfl := Option.some.inj h
          obtain ⟨v, h1, h2⟩ := hE t hmem _ hx
          simp only [cvo, Option.map_eq_some_iff] at h2
          obtain ⟨vs, _, rfl⟩ := h2
          simp [yielded, hj, ht, h1]
        · cases h
      · cases h
    · cases h
theorem rst_ok {m : Map} {env : Env} {a : Act} {T : List Tmp} (hG : Gl K m) (hE : EnvOn m env a.tmps T) : RhoOk m (rstR T (evo K env)) a.eval := fun x v hx => by
  cases x with
  | tmp t =>
    simp only [rstR] at hx
    cases hb : memb t T with
    | false => rw [hb] at hx; cases hx
    | true =>
      rw [hb, cond_true] at hx
      rw [memb_eq] at hb
      obtain ⟨u, h1, h2⟩ := hE t hb v hx
      simp [Act.eval, h1, h2]
  | const c => exact evo_ok (env := enew) (a := a) hG (fun t a ha => by rw [eget_new] at ha; cases ha) (.const c) v hx
  | global g => exact evo_ok (env := enew) (a := a) hG (fun t a ha => by rw [eget_new] at ha; cases ha) (.global g) v hx
  | func f => exact evo_ok (env := enew) (a := a) hG (fun t a ha => by rw [eget_new] at ha; cases ha) (.func f) v hx
theorem findB_some {mj id : Nat} {x : Blk} : ∀ {B : List Rec}, findB mj id B = some x → ∃ r ∈ B, r.k = 2 ∧ tb mj r.i = true ∧ r.S.nx = id ∧ r.blk = x
  | [], h => by simp [findB] at h
  | r :: B, h => by
    simp only [findB] at h
    cases hb : ((Nat.beq r.k 2 && tb mj r.i) && Nat.beq r.S.nx id) with
    | true =>
      rw [hb, cond_true] at h
      rw [Bool.and_eq_true, Bool.and_eq_true, Nat.beq_eq, Nat.beq_eq] at hb
      exact ⟨r, List.mem_cons_self, hb.1.1, hb.1.2, hb.2, Option.some.inj h⟩
    | false =>
      rw [hb, cond_false] at h
      obtain ⟨r', h1, h2⟩ := findB_some h
      exact ⟨r', List.mem_cons_of_mem _ h1, h2⟩
theorem rdGo_at {M : List Nat} {r : Rec} : ∀ {A' : List Rec} {q : Rec} {B : List Rec}, rdGo P K ops M r (A' ++ [q] ++ B) = true → q.k = 3 → (∀ r' ∈ A' ++ [q], r'.k = 3 → tb (mOf M r'.i) r.i = false) → rd1 P K ops M r B q.S' = true
  | [], q, B, h, hq, hn => by
    have e : rdGo P K ops M r ([] ++ [q] ++ B) = (bif Nat.beq q.k 3 then (bif tb (mOf M q.i) r.i then true else rd1 P K ops M r B q.S' && rdGo P K ops M r B) else rdGo P K ops M r B) := rfl
    rw [e, hq, hn q (by simp) hq] at h
    have h' : (rd1 P K ops M r B q.S' && rdGo P K ops M r B) = true := h
    rw [Bool.and_eq_true] at h'
    exact h'.1
  | p :: A', q, B, h, hq, hn => by
    have e : rdGo P K ops M r (p :: A' ++ [q] ++ B) = (bif Nat.beq p.k 3 then (bif tb (mOf M p.i) r.i then true else rd1 P K ops M r (A' ++ [q] ++ B) p.S' && rdGo P K ops M r (A' ++ [q] ++ B)) else rdGo P K ops M r (A' ++ [q] ++ B)) := rfl
    rw [e] at h
    have hn' : ∀ r' ∈ A' ++ [q], r'.k = 3 → tb (mOf M r'.i) r.i = false := fun r' hr' => hn r' (by simp at hr' ⊢; exact .inr hr')
    cases hb : Nat.beq p.k 3 with
    | false => rw [hb, cond_false] at h; exact rdGo_at h hq hn'
    | true =>
      rw [hb, cond_true] at h
      rw [Nat.beq_eq] at hb
      rw [hn p (by simp) hb, cond_false, Bool.and_eq_true] at h
      exact rdGo_at h.2 hq hn'

/-- where a run of a drawn region stands -/
structure Inv (P : Program) (K : Known) (ih : Code → Nat → Env → St → Ex) (ops : Array Oper) (n : Nat) (L : List Rec) (env0 : Env) (S : St) (env2 : Env) (S2 : St) (m0 : Map) (w0 : World) (listed : Array Bool) (a : Act) (w : World) : Prop where
  size : listed.size = ops.size
  closed : ∀ j o, ops[j]? = some o → listed.getD j false = true → ∀ e ∈ o.after.toList, Region.binds .any e = true → listed.getD e.on false = true
  tmps : a.tmps.size = n
  defers : a.defers = []
  rest : ∃ m A B U eA SA, L = A ++ B ∧ (∀ r ∈ A, listed.getD r.i false = true) ∧ (∀ r ∈ B, listed.getD r.i false = true → r.k ≠ 3) ∧ (A = [] ∨ ∃ A' r, A = A' ++ [r] ∧ r.k = 3 ∧ SA = r.S') ∧
    Run P K ih ops n A env0 S eA SA ∧ Run P K ih ops n B eA SA env2 S2 ∧ (∀ id b, SA.lk id = some b → SA.nx ≤ id → id < S2.nx → False) ∧ (∀ id b, SA.lk id = some b → U id = some b) ∧
    (∀ r ∈ B, listed.getD r.i false = true → r.k = 2 → U r.S.nx = some r.blk) ∧
    (∀ id, S.nx ≤ id → id < S2.nx → m id ≠ none → id < SA.nx ∨ ∃ r ∈ B, listed.getD r.i false = true ∧ r.k = 2 ∧ r.S.nx = id) ∧
    Step K.g m0 S.lk S.nx w0 m U S2.nx w ∧
    (∀ t x, foldE (fun i => listed.getD i false) L (eget env0) t = some x → ∃ v, a.tmps[t]? = some v ∧ cvo m x = some v)

theorem set_getD {listed : Array Bool} {j : Nat} (hj : j < listed.size) (i : Nat) : (listed.setIfInBounds j true).getD i false = true ↔ listed.getD i false = true ∨ i = j := by
  by_cases h : i = j
  · subst h; simp [hj]
  · simp only [Array.getD_eq_getD_getElem?, Array.getElem?_setIfInBounds_ne (fun e => h e.symm), h, or_false]

theorem draw_step (hK : KnownOk P K) (hS : Sound P K ih) {L : List Rec} {env0 env2 : Env} {S S2 : St} {m0 : Map} {w0 : World} (hG0 : Gl K m0)
    (hnd : ∀ A r B, L = A ++ r :: B → posOk ops (mks ops.toList []) ((A.map (·.i)).reverse) r.i (B.map (·.i)) = true)
    (hcov : ∀ j, j < ops.size → ∃ r ∈ L, r.i = j) (hrd : rdOk P K ops (mks ops.toList []) L S = true)
    {listed : Array Bool} {a : Act} {w : World} (I : Inv P K ih ops n L env0 S env2 S2 m0 w0 listed a w) {j : Nat} (hj : j ∈ Region.ready .any ops listed) (Q : Exit → Act → World → Prop) :
    wpOp P ops Q j (Inv P K ih ops n L env0 S env2 S2 m0 w0 (listed.setIfInBounds j true)) a w := by
  obtain ⟨hun, o, ho, hpre⟩ := mem_ready.1 hj
  have hjl : j < ops.size := (Array.getElem?_eq_some_iff.1 ho).1
  have hjs : j < listed.size := by rw [I.size]; exact hjl
  have hunF : listed.getD j false ≠ true := by
    intro h
    simp only [Array.getD_eq_getD_getElem?, Array.getElem?_eq_getElem hjs, Option.getD_some] at h hun
    rw [h] at hun; cases hun
  have hpre' : ∀ e ∈ o.after.toList, Region.binds .any e = true → listed.getD e.on false = true := fun e he hb => hpre e (by simpa using he) hb
  obtain ⟨m, A, B, U, eA, SA, hL, hA, hB, hfront, hRA, hRB, hlive, hU1, hU2, hdom, hst, henv⟩ := I.rest
  have mask := mask_closed (ops := ops) (ins := fun i => listed.getD i false = true) I.closed
  have maskj := mask j o ho hpre'
  obtain ⟨r, hr, hri⟩ := hcov j hjl
  have hrB : r ∈ B := by
    rw [hL] at hr
    rcases List.mem_append.1 hr with h | h
    · exact absurd (hri ▸ hA r h) hunF
    · exact h
  obtain ⟨B1, B2, hBs⟩ := List.append_of_mem hrB
  have hLs : L = (A ++ B1) ++ r :: B2 := by rw [hL, hBs]; simp
  rw [hBs] at hRB
  obtain ⟨e1, S1, hR1, hR2⟩ := hRB.split
  cases hR2 with
  | cons hrec hR3 =>
  rename_i er
  obtain rfl : r.o = o := by
    have := hrec.at_
    rw [hri, ho] at this
    exact (Option.some.inj this).symm
  -- what the check says of this place
  have hpos := hnd _ _ _ hLs
  unfold posOk at hpos
  rw [nth_eq, Array.getElem?_toList, hri, ho] at hpos
  simp only [Bool.and_eq_true] at hpos
  obtain ⟨⟨hposW, hposL, hposN⟩, hposT⟩ := hpos
  have hne1 : ∀ q ∈ A ++ B1, q.i ≠ j := fun q hq e => by
    rw [Bool.not_eq_true', ← Bool.not_eq_true, memb_eq] at hposN
    exact hposN (by rw [List.mem_reverse]; exact List.mem_map.2 ⟨q, hq, e⟩)
  have hne2 : ∀ q ∈ B2, q.i ≠ j := fun q hq e => by
    obtain ⟨C1, C2, hC⟩ := List.append_of_mem hq
    have h1 := hnd (A ++ B1 ++ r :: C1) q C2 (by rw [hLs, hC]; simp)
    unfold posOk at h1
    split at h1
    · cases h1
    · simp only [Bool.and_eq_true] at h1
      have h2 := h1.1.2.2
      rw [Bool.not_eq_true', ← Bool.not_eq_true, memb_eq] at h2
      exact h2 (by rw [List.mem_reverse]; exact List.mem_map.2 ⟨r, by simp, by rw [hri, e]⟩)
  have hRecs : ∀ q ∈ L, ∃ e, RecOk P K ih ops n q e := fun q hq => by
    rw [hL] at hq
    rcases List.mem_append.1 hq with h | h
    · exact (hRA.mem hS q h).2.2
    · rw [hBs] at h; exact (hRB.mem hS q h).2.2
  have hdst : ∀ q ∈ L, ∀ t, q.o.dst = some t → dstIs ops.toList q.i t = true := fun q hq t ht => by
    obtain ⟨e, he⟩ := hRecs q hq
    simp [dstIs, nth_eq, Array.getElem?_toList, he.at_, ht]
  have hlate : ∀ t ∈ tsOf ops r.o, ∀ q ∈ B2, q.o.dst = some t → listed.getD q.i false = false := fun t ht q hq hd => by
    have h1 := List.all_eq_true.1 hposT t ht
    rw [Bool.and_eq_true] at h1
    have h2 := List.all_eq_true.1 h1.2 q.i (List.mem_map.2 ⟨q, hq, rfl⟩)
    have hqL : q ∈ L := by rw [hLs]; simp [hq]
    rw [hdst q hqL t hd, cond_true] at h2
    cases hl : listed.getD q.i false with
    | false => rfl
    | true =>
      obtain ⟨e, he⟩ := hRecs q hqL
      exact absurd (mask q.i q.o he.at_ (I.closed q.i q.o he.at_ hl) j h2) hunF
  have hearly : ∀ t ∈ tsOf ops r.o, ∀ q ∈ A ++ B1, q.o.dst = some t → listed.getD q.i false = true := fun t ht q hq hd => by
    have h1 := List.all_eq_true.1 hposT t ht
    rw [Bool.and_eq_true] at h1
    have h2 := List.all_eq_true.1 h1.1 q.i (by rw [List.mem_reverse]; exact List.mem_map.2 ⟨q, hq, rfl⟩)
    have hqL : q ∈ L := by rw [hLs]; exact List.mem_append_left _ hq
    rw [hdst q hqL t hd, cond_true] at h2
    exact maskj q.i h2
  have hG : Gl K m := hG0.ext hst.ext
  -- the operands
  have hon : EnvOn m r.env a.tmps (r.o.looksAt ops) := fun t ht x hx => by
    have ht' : t ∈ tsOf ops r.o := List.mem_append_left _ ht
    have h1 := (hRA.join hR1).env (eget env0) (fun _ _ h => h) t x hx
    refine henv t x ?_
    rw [hLs, foldE_append, foldE_none (L := r :: B2) (fun q hq hd => ?_), foldE_same (q := fun _ => true) (g := eget env0) (fun q hq hd => hearly t ht' q hq hd) rfl]
    · exact h1
    · rcases List.mem_cons.1 hq with rfl | hq
      · rw [hri]; exact Bool.eq_false_iff.2 hunF
      · exact hlate t ht' q hq hd
  have hρ := rst_ok (a := a) hG hon
  -- the places behind it
  have henv' : ∀ (m' : Map) (v : Value), Ext m m' → cvo m' r.v = some v → ∀ t x, foldE (fun i => (listed.setIfInBounds j true).getD i false) L (eget env0) t = some x → ∃ u, (a.put r.o.dst v).tmps[t]? = some u ∧ cvo m' x = some u := by
    intro m' v hext hv t x hx
    by_cases hd : r.o.dst = some t
    · have htn : t < n := by
        have hp := aput_upd hrec.put
        rw [hd] at hp
        exact hp.1
      have ht' : t ∈ tsOf ops r.o := by unfold tsOf; rw [hd]; exact List.mem_append_right _ (by simp [optT])
      rw [hLs, foldE_append] at hx
      have : foldE (fun i => (listed.setIfInBounds j true).getD i false) (r :: B2) (foldE (fun i => (listed.setIfInBounds j true).getD i false) (A ++ B1) (eget env0)) t = some r.v := by
        rw [foldE, foldE_none (fun q hq hqd => ?_)]
        · have : (listed.setIfInBounds j true).getD r.i false = true := (set_getD hjs r.i).2 (.inr hri)
          rw [this]; simp [updF, hd]
        · have h1 := hlate t ht' q hq hqd
          rw [Bool.eq_false_iff]
          intro h2
          rcases (set_getD hjs q.i).1 h2 with h3 | h3
          · rw [h1] at h3; cases h3
          · exact hne2 q hq h3
      rw [this] at hx
      obtain rfl := Option.some.inj hx
      refine ⟨v, ?_, hv⟩
      simp [Act.put, hd, I.tmps, htn]
    · rw [foldE_same (q := fun i => listed.getD i false) (g := eget env0) (fun q hq hqd => ?_) rfl] at hx
      · obtain ⟨u, h1, h2⟩ := henv t x hx
        refine ⟨u, ?_, cvo_mono hext _ h2⟩
        cases hdd : r.o.dst with
        | none => simpa [Act.put] using h1
        | some d =>
          have : d ≠ t := fun e => hd (by rw [hdd, e])
          simp only [Act.put]; rw [Array.getElem?_setIfInBounds_ne this]; exact h1
      · have : q.i ≠ j := by
          intro e
          obtain ⟨eq_, he⟩ := hRecs q hq
          have := he.at_
          rw [e, ho] at this
          exact hd (by rw [Option.some.inj this]; exact hqd)
        rw [Bool.eq_iff_iff, set_getD hjs]; simp [this]
  have hsz : ∀ v : Value, (a.put r.o.dst v).tmps.size = n := fun v => by cases hd : r.o.dst <;> simp [Act.put, I.tmps]
  have hcl : ∀ i o', ops[i]? = some o' → (listed.setIfInBounds j true).getD i false = true → ∀ e ∈ o'.after.toList, Region.binds .any e = true → (listed.setIfInBounds j true).getD e.on false = true := by
    intro i o' hi hl e he hb
    rw [set_getD hjs] at hl ⊢
    rcases hl with hl | rfl
    · exact .inl (I.closed i o' hi hl e he hb)
    · rw [ho] at hi; obtain rfl := Option.some.inj hi; exact .inl (hpre' e he hb)
  -- behind an operation that turned nothing
  have still : r.k ≠ 3 → r.k ≠ 2 → ∀ v : Value, cvo m r.v = some v → Inv P K ih ops n L env0 S env2 S2 m0 w0 (listed.setIfInBounds j true) (a.put r.o.dst v) w := by
    intro h3 h2 v hv
    refine ⟨by rw [Array.size_setIfInBounds]; exact I.size, hcl, hsz v, by rw [put_defers]; exact I.defers, m, A, B, U, eA, SA, hL, fun q hq => (set_getD hjs q.i).2 (.inl (hA q hq)), fun q hq hl => ?_, hfront, hRA, by rw [hBs]; exact hRB, hlive, hU1, fun q hq hl hk => ?_, fun id i1 i2 i3 => ?_, hst, henv' m v (fun _ _ h => h) hv⟩
    · rcases (set_getD hjs q.i).1 hl with hl | hl
      · exact hB q hq hl
      · rw [hBs] at hq
        rcases List.mem_append.1 hq with hq | hq
        · exact absurd hl (hne1 q (List.mem_append_right _ hq))
        · rcases List.mem_cons.1 hq with rfl | hq
          · exact h3
          · exact absurd hl (hne2 q hq)
    · rcases (set_getD hjs q.i).1 hl with hl | hl
      · exact hU2 q hq hl hk
      · rw [hBs] at hq
        rcases List.mem_append.1 hq with hq | hq
        · exact absurd hl (hne1 q (List.mem_append_right _ hq))
        · rcases List.mem_cons.1 hq with rfl | hq
          · exact absurd hk h2
          · exact absurd hl (hne2 q hq)
    · rcases hdom id i1 i2 i3 with h | ⟨q, q1, q2, q3⟩
      · exact .inl h
      · exact .inr ⟨q, q1, (set_getD hjs q.i).2 (.inl q2), q3⟩
  have hSr : SA.nx ≤ r.S.nx := hR1.le hS
  have hrle := hrec.le hS
  have hr2 : r.S'.nx ≤ S2.nx := hR3.le hS
  have hS0 : S.nx ≤ SA.nx := hRA.le hS
  have hB1 : ∀ q ∈ B1, q.k = 2 → q.S.nx < r.S.nx := fun q hq hk => by
    obtain ⟨x, y, e, he⟩ := hR1.mem hS q hq
    have := (he.le hS).2.1 hk
    omega
  have hB2 : ∀ q ∈ B2, r.S'.nx ≤ q.S.nx ∧ (q.k = 2 → q.S.nx < S2.nx) := fun q hq => by
    obtain ⟨x, y, e, he⟩ := hR3.mem hS q hq
    refine ⟨x, fun hk => ?_⟩
    have := (he.le hS).2.1 hk
    omega
  have hfree : ∀ id, r.S.nx ≤ id → id < r.S'.nx → m id = none := by
    intro id i1 i2
    cases hm : m id with
    | none => rfl
    | some LL =>
      rcases hdom id (by omega) (by omega) (by rw [hm]; simp) with h | ⟨q, q1, q2, q3, q4⟩
      · omega
      · rw [hBs] at q1
        rcases List.mem_append.1 q1 with q1 | q1
        · have := hB1 q q1 q3; omega
        · rcases List.mem_cons.1 q1 with rfl | q1
          · exact absurd (hri ▸ q2) hunF
          · have := (hB2 q q1).1; omega
  unfold wpOp
  simp only [ho]
  rcases hrec.does with ⟨hw, hop, hstw⟩ | ⟨hw, hv, hk, hS'⟩
  rotate_left
  · -- not wanted
    rw [awant_on hon hw]
    simp only [Bool.false_eq_true, if_false]
    exact still (by omega) (by omega) undef (by rw [hv]; rfl)
  rw [awant_on hon hw]
  simp only [if_true]
  left
  rcases aopk_cases hS hop with ⟨hk, hpu, _⟩ | ⟨hk, hrdv, _⟩ | ⟨hk, ⟨f, hal, hvf⟩, hg, hS'⟩ | ⟨hk, hle, hwr⟩
  · -- pure
    obtain ⟨z, h1, h2⟩ := apure_ok (P := P) hρ hpu
    unfold Oper.wp
    rw [h2 w]
    exact still (by omega) (by omega) z h1
  · -- a read
    have hrOk := List.all_eq_true.1 hrd r hr
    have hkb : Nat.beq r.k 1 = true := by rw [Nat.beq_eq]; exact hk
    rw [hkb, cond_true, Bool.and_eq_true] at hrOk
    have hrd1 : rd1 P K ops (mks ops.toList []) r B SA = true := by
      rcases hfront with rfl | ⟨A', q, rfl, hq, hqs⟩
      · cases hRA
        rw [hL] at hrOk
        exact hrOk.1
      · rw [hqs]
        rw [hL] at hrOk
        refine rdGo_at hrOk.2 hq fun r' hr' hk' => ?_
        rw [Bool.eq_false_iff]
        intro htb
        have hr'L : r' ∈ L := by rw [hL]; exact List.mem_append_left _ hr'
        obtain ⟨e, he⟩ := hRecs r' hr'L
        rw [hri] at htb
        exact hunF (mask r'.i r'.o he.at_ (I.closed r'.i r'.o he.at_ (hA r' hr')) j htb)
    unfold rd1 at hrd1
    have hcond : B.all (fun q => bif Nat.beq q.k 3 then !(tb (mOf (mks ops.toList []) r.i) q.i) else true) = true := by
      rw [List.all_eq_true]
      intro q hq
      cases hb : Nat.beq q.k 3 with
      | false => rfl
      | true =>
        rw [cond_true, Bool.not_eq_true', Bool.eq_false_iff]
        intro htb
        rw [Nat.beq_eq] at hb
        rw [hri] at htb
        exact hB q hq (maskj q.i htb) hb
    rw [hcond, cond_true] at hrd1
    split at hrd1
    · rename_i v' hv'
      obtain rfl := eqb_ok _ hrd1
      have hRl : R (lookB SA B (mOf (mks ops.toList []) r.i)) m w := hst.rel.sub fun id x hx => by
        unfold lookB at hx
        split at hx
        · rename_i b hb
          obtain rfl := Option.some.inj hx
          exact hU1 id b hb
        · obtain ⟨q, q1, q2, q3, q4, q5⟩ := findB_some hx
          rw [hri] at q3
          rw [← q4, ← q5]
          exact hU2 q q1 (maskj q.i q3) q2
      obtain ⟨z, h1, h2⟩ := ard_ok (P := P) hRl hρ hv'
      unfold Oper.wp
      rw [h2]
      exact still (by omega) (by omega) z h1
    · cases hrd1
  · -- a new block
    have hnx : r.S'.nx = r.S.nx + 1 := hrle.2.1 hk
    have hm : m r.S.nx = none := hfree r.S.nx (Nat.le_refl _) (by omega)
    obtain ⟨ob, e, hn⟩ := aalloc_ok (P := P) hρ hal
    obtain ⟨h1, u, h2, h3⟩ := hn (mset m r.S.nx ⟨w.heap.size, 0, e⟩) r.S.nx w (w.alloc ob) (mset_ext hm) (mset_self _ _ _) rfl
    unfold Oper.wp
    have h3' : (execOp a.eval r.o).run P w = .ok (.value u) (w.alloc ob) := h3
    rw [h3']
    have hstep := Step.new (w' := w.alloc ob) (blk := r.blk) (lk' := fun id => if id = r.S.nx then some r.blk else U id) hst.rel hg hm rfl rfl rfl rfl (fun id b hb => by
      split at hb
      · rename_i h; exact .inl ⟨h, (Option.some.inj hb).symm⟩
      · rename_i h; exact .inr ⟨h, hb⟩) (fun id hid => if_neg hid) h1
    have hnot : ∀ q ∈ B, listed.getD q.i false = true → q.k = 2 → q.S.nx ≠ r.S.nx := fun q hq hl hk2 => by
      rw [hBs] at hq
      rcases List.mem_append.1 hq with hq | hq
      · have := hB1 q hq hk2; omega
      · rcases List.mem_cons.1 hq with rfl | hq
        · exact absurd (hri ▸ hl) hunF
        · have := (hB2 q hq).1; omega
    refine ⟨by rw [Array.size_setIfInBounds]; exact I.size, hcl, hsz u, by rw [put_defers]; exact I.defers, mset m r.S.nx ⟨w.heap.size, 0, e⟩, A, B, _, eA, SA, hL, fun q hq => (set_getD hjs q.i).2 (.inl (hA q hq)), fun q hq hl => ?_, hfront, hRA, by rw [hBs]; exact hRB, hlive, fun id b hb => ?_, fun q hq hl hk2 => ?_, fun id i1 i2 i3 => ?_,
      hst.trans2 (hstep.widen (by omega) (by omega)), henv' _ u (mset_ext hm) (hvf ▸ h2)⟩
    · rcases (set_getD hjs q.i).1 hl with hl | hl
      · exact hB q hq hl
      · rw [hBs] at hq
        rcases List.mem_append.1 hq with hq | hq
        · exact absurd hl (hne1 q (List.mem_append_right _ hq))
        · rcases List.mem_cons.1 hq with rfl | hq
          · omega
          · exact absurd hl (hne2 q hq)
    · show (if id = r.S.nx then some r.blk else U id) = some b
      rw [if_neg (fun e => hlive id b hb (by omega) (by omega))]
      exact hU1 id b hb
    · show (if q.S.nx = r.S.nx then some r.blk else U q.S.nx) = some q.blk
      rcases (set_getD hjs q.i).1 hl with hl | hl
      · rw [if_neg (hnot q hq hl hk2)]; exact hU2 q hq hl hk2
      · rw [hBs] at hq
        rcases List.mem_append.1 hq with hq | hq
        · exact absurd hl (hne1 q (List.mem_append_right _ hq))
        · rcases List.mem_cons.1 hq with rfl | hq
          · rw [if_pos rfl]
          · exact absurd hl (hne2 q hq)
    · by_cases e0 : id = r.S.nx
      · exact .inr ⟨r, hrB, (set_getD hjs r.i).2 (.inr hri), hk, e0.symm⟩
      · rw [mset_ne e0] at i3
        rcases hdom id i1 i2 i3 with h | ⟨q, q1, q2, q3⟩
        · exact .inl h
        · exact .inr ⟨q, q1, (set_getD hjs q.i).2 (.inl q2), q3⟩
  · -- a write, a call
    have hallB1 : ∀ q ∈ B1, listed.getD q.i false = true := fun q hq => by
      have hs := hstw hk
      rw [hs, cond_true] at hposW
      have h1 := List.all_eq_true.1 hposW q.i (by rw [List.mem_reverse]; exact List.mem_map.2 ⟨q, List.mem_append_right _ hq, rfl⟩)
      exact maskj q.i h1
    have hk1 : ∀ q ∈ B1, q.k ≠ 3 := fun q hq => hB q (by rw [hBs]; exact List.mem_append_left _ hq) (hallB1 q hq)
    have hlks := hR1.lks hS hk1
    have hliveR : ∀ id b, r.S.lk id = some b → r.S.nx ≤ id → id < S2.nx → False := by
      intro id b hb i1 i2
      rcases hlks id b hb with h | ⟨q, q1, q2, q3, _⟩
      · exact hlive id b h (by omega) i2
      · have := hB1 q q1 q2; omega
    have hrU : ∀ id b, r.S.lk id = some b → U id = some b := by
      intro id b hb
      rcases hlks id b hb with h | ⟨q, q1, q2, q3, q4⟩
      · exact hU1 id b h
      · rw [← q3, ← q4]; exact hU2 q (by rw [hBs]; exact List.mem_append_left _ q1) (hallB1 q q1) q2
    let E : Lk := fun id => open Classical in if ∃ q ∈ B2, listed.getD q.i false = true ∧ q.k = 2 ∧ q.S.nx = id then U id else none
    have hE : ∀ id x, E id = some x → (∃ q ∈ B2, listed.getD q.i false = true ∧ q.k = 2 ∧ q.S.nx = id) ∧ U id = some x := by
      intro id x hx
      simp only [E] at hx
      split at hx
      · rename_i h; exact ⟨h, hx⟩
      · cases hx
    have hsub : ∀ id x, jn r.S.lk E id = some x → U id = some x := by
      intro id x hx
      rcases jn_some hx with hx | ⟨_, hx⟩
      · exact hrU id x hx
      · exact (hE id x hx).2
    have hst' : Step K.g m0 S.lk S.nx w0 m (jn r.S.lk E) S2.nx w := hst.weaken (fun id x hx => ⟨x, hsub id x hx, fun h => h⟩) (fun id x _ hx => hsub id x hx)
    have hbes : ∀ id x, E id = some x → K.g ≤ id ∧ r.S.lk id = none := by
      intro id x hx
      obtain ⟨⟨q, q1, q2, q3, q4⟩, _⟩ := hE id x hx
      have h5 := hB2 q q1
      obtain ⟨_, _, e, he⟩ := hR3.mem hS q q1
      refine ⟨?_, ?_⟩
      · rcases he.does with ⟨_, h6, _⟩ | ⟨_, _, h6, _⟩
        · rcases aopk_cases hS h6 with ⟨h7, _⟩ | ⟨h7, _⟩ | ⟨_, _, h7, _⟩ | ⟨h7, _⟩ <;> omega
        · omega
      · cases hn : r.S.lk id with
        | none => rfl
        | some b => exact (hliveR id b hn (by omega) (by have := h5.2 q3; omega)).elim
    have hRr : R r.S.lk m w := hst'.rel.sub fun id x hx => by unfold jn; rw [hx]
    have hfre : Fre m r.S.nx r.S'.nx := hfree
    -- what is left to show behind it
    have fin : ∀ (m1 : Map) (v : Value) (w1 : World), Step K.g m r.S.lk r.S.nx w m1 r.S'.lk r.S'.nx w1 → cvo m1 r.v = some v → Inv P K ih ops n L env0 S env2 S2 m0 w0 (listed.setIfInBounds j true) (a.put r.o.dst v) w1 := by
      intro m1 v w1 hs1 hv
      have hbs := hs1.beside hst'.rel hbes
      have hlive' : ∀ id b, r.S'.lk id = some b → r.S'.nx ≤ id → id < S2.nx → False := by
        intro id b hb i1 i2
        rcases hs1.keep id b hb with ⟨b0, h1⟩ | ⟨_, h1⟩
        · exact hliveR id b0 h1 (by omega) i2
        · omega
      refine ⟨by rw [Array.size_setIfInBounds]; exact I.size, hcl, hsz v, by rw [put_defers]; exact I.defers, m1, A ++ B1 ++ [r], B2, jn r.S'.lk E, er, r.S', by rw [hLs]; simp, fun q hq => ?_, fun q hq hl => ?_, .inr ⟨A ++ B1, r, rfl, hk, rfl⟩, ?_, hR3, hlive', fun id b hb => by unfold jn; rw [hb], fun q hq hl hk2 => ?_, fun id i1 i2 i3 => ?_,
        hst'.trans2 (hbs.widen (by omega) (by omega)), henv' m1 v hs1.ext hv⟩
      · rcases List.mem_append.1 hq with hq | hq
        · rcases List.mem_append.1 hq with hq | hq
          · exact (set_getD hjs q.i).2 (.inl (hA q hq))
          · exact (set_getD hjs q.i).2 (.inl (hallB1 q hq))
        · obtain rfl := List.mem_singleton.1 hq
          exact (set_getD hjs q.i).2 (.inr hri)
      · rcases (set_getD hjs q.i).1 hl with hl | hl
        · exact hB q (by rw [hBs]; simp [hq]) hl
        · exact absurd hl (hne2 q hq)
      · exact (hRA.join hR1).join (.cons hrec .nil)
      · have hl' : listed.getD q.i false = true := by
          rcases (set_getD hjs q.i).1 hl with hl | hl
          · exact hl
          · exact absurd hl (hne2 q hq)
        have h5 := hB2 q hq
        have hnone : r.S'.lk q.S.nx = none := by
          cases hn : r.S'.lk q.S.nx with
          | none => rfl
          | some b => exact (hlive' _ b hn h5.1 (h5.2 hk2)).elim
        unfold jn
        rw [hnone]
        simp only [E]
        rw [if_pos ⟨q, hq, hl', hk2, rfl⟩]
        exact hU2 q (by rw [hBs]; simp [hq]) hl' hk2
      · cases hm1 : m1 id with
        | none => exact absurd hm1 i3
        | some LL =>
          rcases hs1.dom id LL hm1 with h | ⟨_, h⟩
          · rcases hdom id i1 i2 (by rw [h]; simp) with h6 | ⟨q, q1, q2, q3, q4⟩
            · exact .inl (by omega)
            · rw [hBs] at q1
              rcases List.mem_append.1 q1 with q1 | q1
              · have := hB1 q q1 q3; exact .inl (by omega)
              · rcases List.mem_cons.1 q1 with rfl | q1
                · exact absurd (hri ▸ q2) hunF
                · exact .inr ⟨q, q1, (set_getD hjs q.i).2 (.inl q2), q3, q4⟩
          · exact .inl h
    rcases hwr with hwr | ⟨f, as, hc, hcall⟩
    · obtain ⟨m1, w1, nx, u, h1, h2, h3, h4⟩ := awr_ok (P := P) hRr hfre hρ hwr
      unfold Oper.wp
      rw [h1]
      rcases h2 with rfl | ⟨rfl, rfl⟩
      · exact fin m1 u w1 h4 h3
      · exact fin m1 undef w1 h4 h3
    · obtain ⟨_, hcs⟩ := acallf_ok hK hS hcall
      obtain ⟨args, ha, hrun⟩ := acallee_ok (P := P) hρ hc
      unfold Oper.wp
      rw [hrun]
      rcases hcs m w args hRr hfre hG ha with ⟨he, hcalls⟩ | ⟨m1, w1, v, h1, h2, h3⟩
      · rw [he]
        refine Calls.mono hcalls ?_
        rintro e w1 ⟨m1, v, rfl, h1, h2⟩
        exact fin m1 v w1 h2 h1
      · rw [h1]
        exact fin m1 v w1 h3 h2
end
end Am
end
section
namespace Am
open Go
noncomputable section
variable {P : Program} {K : Known} {ih : Code → Nat → Env → St → Ex} {ops : Array Oper} {n : Nat}

def left (listed : Array Bool) : List Rec → Nat
  | [] => 0
  | r :: L => (if listed.getD r.i false = true then 0 else 1) + left listed L
theorem left_zero {listed : Array Bool} : ∀ {L : List Rec}, left listed L = 0 → ∀ r ∈ L, listed.getD r.i false = true
  | [], _, r, h => by cases h
  | r0 :: L, h, r, hr => by
    simp only [left] at h
    rcases List.mem_cons.1 hr with rfl | hr
    · by_cases hl : listed.getD r.i false = true
      · exact hl
      · rw [if_neg hl] at h; omega
    · exact left_zero (by omega) r hr
theorem left_le {l l' : Array Bool} (h : ∀ i, l.getD i false = true → l'.getD i false = true) : ∀ L : List Rec, left l' L ≤ left l L
  | [] => Nat.le_refl _
  | r :: L => by
    have := left_le h L
    simp only [left]
    by_cases h1 : l.getD r.i false = true
    · rw [if_pos h1, if_pos (h _ h1)]; omega
    · rw [if_neg h1]; split <;> omega
theorem left_lt {l l' : Array Bool} (h : ∀ i, l.getD i false = true → l'.getD i false = true) : ∀ {L : List Rec} {r : Rec}, r ∈ L → ¬ l.getD r.i false = true → l'.getD r.i false = true → left l' L < left l L
  | [], r, hr, _, _ => by cases hr
  | r0 :: L, r, hr, h1, h2 => by
    simp only [left]
    rcases List.mem_cons.1 hr with rfl | hr
    · have := left_le h L
      rw [if_pos h2, if_neg h1]; omega
    · have := left_lt h hr h1 h2
      by_cases h3 : l.getD r0.i false = true
      · rw [if_pos h3, if_pos (h _ h3)]; omega
      · rw [if_neg h3]; split <;> omega
theorem first_left {listed : Array Bool} : ∀ {L : List Rec}, left listed L ≠ 0 → ∃ A r B, L = A ++ r :: B ∧ (∀ q ∈ A, listed.getD q.i false = true) ∧ ¬ listed.getD r.i false = true
  | [], h => absurd rfl h
  | r :: L, h => by
    by_cases hl : listed.getD r.i false = true
    · simp only [left, if_pos hl, Nat.zero_add] at h
      obtain ⟨A, q, B, h1, h2, h3⟩ := first_left h
      exact ⟨r :: A, q, B, by rw [h1]; rfl, fun x hx => by
        rcases List.mem_cons.1 hx with rfl | hx
        · exact hl
        · exact h2 x hx, h3⟩
    · exact ⟨[], r, L, rfl, fun q hq => (by cases hq), hl⟩
theorem draw_all (hK : KnownOk P K) (hS : Sound P K ih) {L : List Rec} {env0 env2 : Env} {S S2 : St} {m0 : Map} {w0 : World} (hG0 : Gl K m0) (hrun : Run P K ih ops n L env0 S env2 S2)
    (hnd : ∀ A r B, L = A ++ r :: B → posOk ops (mks ops.toList []) ((A.map (·.i)).reverse) r.i (B.map (·.i)) = true)
    (hcov : ∀ j, j < ops.size → ∃ r ∈ L, r.i = j) (hrd : rdOk P K ops (mks ops.toList []) L S = true) (Q : Exit → Act → World → Prop)
    (hq : ∀ listed a w, Inv P K ih ops n L env0 S env2 S2 m0 w0 listed a w → (∀ r ∈ L, listed.getD r.i false = true) → Q .normal a w) :
    ∀ (fuel : Nat) (listed : Array Bool) (a : Act) (w : World), Inv P K ih ops n L env0 S env2 S2 m0 w0 listed a w → left listed L ≤ fuel → wpAny P .any ops Q fuel listed a w := by
  have hready : ∀ listed a w, Inv P K ih ops n L env0 S env2 S2 m0 w0 listed a w → Region.ready .any ops listed = [] → ∀ r ∈ L, listed.getD r.i false = true := by
    intro listed a w I he
    by_cases h0 : left listed L = 0
    · exact left_zero h0
    · obtain ⟨A, r, B, h1, h2, h3⟩ := first_left h0
      have hp := hnd A r B h1
      unfold posOk at hp
      split at hp
      · cases hp
      · rename_i o ho
        rw [nth_eq, Array.getElem?_toList] at ho
        simp only [Bool.and_eq_true] at hp
        have hlin := List.all_eq_true.1 hp.1.2.1
        have : r.i ∈ Region.ready .any ops listed := by
          rw [mem_ready]
          refine ⟨?_, o, ho, fun e he hb => ?_⟩
          · have hl : r.i < listed.size := by rw [I.size]; exact (Array.getElem?_eq_some_iff.1 ho).1
            simp only [Array.getD_eq_getD_getElem?, Array.getElem?_eq_getElem hl, Option.getD_some] at h3 ⊢
            simpa using h3
          · have h4 := hlin e (by simpa using he)
            rw [hb, cond_true, memb_eq, List.mem_reverse] at h4
            obtain ⟨q, h5, h6⟩ := List.mem_map.1 h4
            rw [← h6]; exact h2 q h5
        rw [he] at this
        cases this
  have hnone : ∀ listed a w, Inv P K ih ops n L env0 S env2 S2 m0 w0 listed a w → (∀ r ∈ L, listed.getD r.i false = true) → Region.ready .any ops listed = [] := by
    intro listed a w I hall
    rw [List.eq_nil_iff_forall_not_mem]
    intro j hj
    obtain ⟨h1, o, ho, _⟩ := mem_ready.1 hj
    have hjl : j < ops.size := (Array.getElem?_eq_some_iff.1 ho).1
    obtain ⟨r, hr, rfl⟩ := hcov j hjl
    have h2 := hall r hr
    have hl : r.i < listed.size := by rw [I.size]; exact hjl
    simp only [Array.getD_eq_getD_getElem?, Array.getElem?_eq_getElem hl, Option.getD_some] at h1 h2
    rw [h1] at h2; cases h2
  intro fuel
  induction fuel with
  | zero =>
    intro listed a w I hl
    have hall := left_zero (Nat.le_zero.1 hl)
    exact ⟨hnone listed a w I hall, hq listed a w I hall⟩
  | succ fuel IH =>
    intro listed a w I hl
    refine ⟨fun he => hq listed a w I (hready listed a w I he), fun j hj => ?_⟩
    obtain ⟨h1, o, ho, _⟩ := mem_ready.1 hj
    have hjl : j < ops.size := (Array.getElem?_eq_some_iff.1 ho).1
    have hjs : j < listed.size := by rw [I.size]; exact hjl
    refine wpOp_mono (fun a' w' I' => IH _ a' w' I' ?_) (draw_step hK hS hG0 hnd hcov hrd I hj Q)
    obtain ⟨r, hr, rfl⟩ := hcov j hjl
    have := left_lt (l := listed) (l' := listed.setIfInBounds r.i true) (fun i hi => (set_getD hjs i).2 (.inl hi)) hr (by
      intro h2
      simp only [Array.getD_eq_getD_getElem?, Array.getElem?_eq_getElem hjs, Option.getD_some] at h1 h2
      rw [h1] at h2; cases h2) ((set_getD hjs r.i).2 (.inr rfl))
    omega
theorem adraw_ok (hK : KnownOk P K) : DrawOk P K (adraw P K) := by
  intro ih hS ops n id env S env' S' h
  unfold adraw at h
  split at h
  · cases h
  rename_i ord M hst
  split at h
  · cases h
  rename_i L e S2 harun
  cases hrd : rdOk P K ops M L S with
  | false => rw [hrd] at h; cases h
  | true =>
  rw [hrd, cond_true] at h
  cases h
  obtain ⟨hrun, hord⟩ := arun_ok harun
  unfold stat stat2 at hst
  cases hb : ((Nat.beq (len (ordOf ops.toList (mks ops.toList []))) (len ops.toList) && (List.range (len ops.toList)).all (fun j => memb j (ordOf ops.toList (mks ops.toList [])))) && chkPos ops (mks ops.toList []) [] (ordOf ops.toList (mks ops.toList []))) with
  | false => rw [hb] at hst; cases hst
  | true =>
  rw [hb, cond_true] at hst
  obtain ⟨rfl, rfl⟩ := Prod.mk.inj (Option.some.inj hst)
  rw [Bool.and_eq_true, Bool.and_eq_true, Nat.beq_eq, len_eq, len_eq] at hb
  obtain ⟨⟨hb0, hb1⟩, hb2⟩ := hb
  rw [← hord, List.length_map] at hb0
  have hnd : ∀ A r B, L = A ++ r :: B → posOk ops (mks ops.toList []) ((A.map (·.i)).reverse) r.i (B.map (·.i)) = true := by
    intro A r B hL
    rw [← hord, hL] at hb2
    simp only [List.map_append, List.map_cons] at hb2
    have := chkPos_at hb2
    simpa using this
  have hcov : ∀ j, j < ops.size → ∃ r ∈ L, r.i = j := by
    intro j hj
    have h1 := List.all_eq_true.1 hb1 j (by rw [List.mem_range]; simpa using hj)
    rw [memb_eq, ← hord] at h1
    obtain ⟨r, h2, h3⟩ := List.mem_map.1 h1
    exact ⟨r, h2, h3⟩
  refine ⟨hrun.le hS, fun m a w hR hf hG hE hn hd Q hq => wp_region_any hK.mixed ?_⟩
  refine draw_all (m0 := m) (w0 := w) hK hS hG hrun hnd hcov hrd Q (fun listed a' w' I hall => ?_) ops.size _ a _ ?_ ?_
  · obtain ⟨m', A, B, U, eA, SA, hL, hA, hB, _, hRA, hRB, _, hU1, hU2, _, hst', henv⟩ := I.rest
    have hsub : ∀ id b, S'.lk id = some b → U id = some b := by
      intro id b hb
      rcases hRB.lks hS (fun r hr => hB r hr (hall r (by rw [hL]; exact List.mem_append_right _ hr))) id b hb with h1 | ⟨r, h1, h2, h3, h4⟩
      · exact hU1 id b h1
      · rw [← h3, ← h4]; exact hU2 r h1 (hall r (by rw [hL]; exact List.mem_append_right _ h1)) h2
    refine hq m' a' w' (hst'.weaken (fun id b hb => ⟨b, hsub id b hb, fun h => h⟩) (fun id b _ hb => hsub id b hb)) (fun t x hx => ?_) I.tmps I.defers
    have h1 := hrun.env (eget env) (fun _ _ h => h) t x hx
    rw [foldE_same (q := fun i => listed.getD i false) (g := eget env) (fun r hr _ => (hall r hr).symm) rfl] at h1
    exact henv t x h1
  · have hfalse : ∀ i, ¬ (Array.replicate ops.size false).getD i false = true := by
      intro i
      simp only [Array.getD_eq_getD_getElem?]
      by_cases hi : i < ops.size
      · simp [hi]
      · simp [hi]
    refine ⟨by simp, fun j o _ h1 => absurd h1 (hfalse j), hn, hd, m, [], L, S.lk, env, S, rfl, fun r hr => (by cases hr), fun r _ h1 => absurd h1 (hfalse r.i), .inl rfl, .nil, hrun, fun id b hb i1 i2 => ?_, fun id b hb => hb, fun r _ h1 => absurd h1 (hfalse r.i), fun id i1 i2 i3 => absurd (hf id i1 i2) i3, ?_, fun t x hx => ?_⟩
    · obtain ⟨LL, h1, _⟩ := (hR.holds id b hb).loc
      rw [hf id i1 i2] at h1; cases h1
    · exact (Step.drew (w' := { w with drawn := w.drawn + 1 }) hR rfl rfl rfl rfl).widen (Nat.le_refl _) (hrun.le hS)
    · rw [foldE_none (fun r _ _ => Bool.eq_false_iff.2 (hfalse r.i))] at hx
      exact hE t x hx
  · have : ∀ (L : List Rec) (l : Array Bool), left l L ≤ L.length := by
      intro L l
      induction L with
      | nil => exact Nat.le_refl _
      | cons r L ih => simp only [left, List.length_cons]; split <;> omega
    have h2 := this L (Array.replicate ops.size false)
    rw [hb0, Array.length_toList] at h2
    exact h2
end
end Am
end
