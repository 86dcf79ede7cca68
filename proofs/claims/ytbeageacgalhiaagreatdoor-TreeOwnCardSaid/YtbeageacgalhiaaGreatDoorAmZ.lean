/- A machine for closed runs: a region whose order is drawn: masks, places, what a reckoning leaves. No program in sight. -/
import Derived.Test.YtbeageacgalhiaaGreatDoorAmY
set_option linter.unusedVariables false
set_option linter.unusedSimpArgs false
namespace Am
open Go
noncomputable section
variable {P : Program} {K : Known}

theorem mk1_bit {acc : List Nat} {o : Oper} {i : Nat} (h : (mk1 acc o).testBit i = true) : ∃ e ∈ o.after.toList, Region.binds .any e = true ∧ (e.on = i ∨ ∃ x, acc[e.on]? = some x ∧ x.testBit i = true) := by
  have key : ∀ (l : List Edge) (s : Nat), (l.foldl (fun s e => bif Region.binds .any e then Nat.lor s (Nat.lor (Nat.shiftLeft 1 e.on) ((nth acc e.on).getD 0)) else s) s).testBit i = true →
      s.testBit i = true ∨ ∃ e ∈ l, Region.binds .any e = true ∧ (e.on = i ∨ ∃ x, acc[e.on]? = some x ∧ x.testBit i = true) := by
    intro l
    induction l with
    | nil => intro s hs; exact .inl hs
    | cons e l ih =>
      intro s hs
      rw [List.foldl_cons] at hs
      rcases ih _ hs with h1 | ⟨e', h1, h2⟩
      · cases hb : Region.binds .any e with
        | false => rw [hb, cond_false] at h1; exact .inl h1
        | true =>
          rw [hb, cond_true] at h1
          have h1' : (s ||| ((1 <<< e.on) ||| ((nth acc e.on).getD 0))).testBit i = true := h1
          rw [Nat.testBit_or, Nat.testBit_or, Nat.one_shiftLeft, Nat.testBit_two_pow] at h1'
          rcases Bool.or_eq_true _ _ ▸ h1' with h2 | h2
          · exact .inl h2
          · right
            refine ⟨e, List.mem_cons_self, hb, ?_⟩
            rcases Bool.or_eq_true _ _ ▸ h2 with h3 | h3
            · exact .inl (of_decide_eq_true h3)
            · right
              rw [nth_eq] at h3
              cases hx : acc[e.on]? with
              | none => rw [hx] at h3; simp at h3
              | some x => rw [hx] at h3; exact ⟨x, rfl, h3⟩
      · exact .inr ⟨e', List.mem_cons_of_mem _ h1, h2⟩
  rcases key _ _ h with h1 | h1
  · simp at h1
  · exact h1
theorem mks_spec : ∀ (l : List Oper) (acc : List Nat), (∃ tail, mks l acc = acc ++ tail) ∧ (mks l acc).length = acc.length + l.length ∧ ∀ j o, l[j]? = some o → (mks l acc)[acc.length + j]? = some (mk1 ((mks l acc).take (acc.length + j)) o)
  | [], acc => ⟨⟨[], by simp [mks]⟩, by simp [mks], fun j o h => by simp at h⟩
  | o :: l, acc => by
    obtain ⟨⟨tail, h1⟩, h2, h3⟩ := mks_spec l (acc ++ [mk1 acc o])
    have e : mks (o :: l) acc = mks l (acc ++ [mk1 acc o]) := rfl
    refine ⟨⟨mk1 acc o :: tail, by rw [e, h1]; simp⟩, by rw [e, h2]; simp; omega, fun j o' hj => ?_⟩
    rw [e]
    cases j with
    | zero =>
      obtain rfl : o = o' := by simpa using hj
      rw [h1, Nat.add_zero]
      rw [List.append_assoc, List.getElem?_append_right (Nat.le_refl _), Nat.sub_self, List.take_left']
      · rfl
      · rfl
    | succ j =>
      have := h3 j o' (by simpa using hj)
      rw [List.length_append, List.length_singleton] at this
      rw [show acc.length + (j + 1) = acc.length + 1 + j by omega]
      exact this
theorem mask_closed {ops : Array Oper} {ins : Nat → Prop} (hc : ∀ j o, ops[j]? = some o → ins j → ∀ e ∈ o.after.toList, Region.binds .any e = true → ins e.on) :
    ∀ (j : Nat) (o : Oper), ops[j]? = some o → (∀ e ∈ o.after.toList, Region.binds .any e = true → ins e.on) → ∀ i, tb (mOf (mks ops.toList []) j) i = true → ins i := by
  intro j
  induction j using Nat.strongRecOn with
  | _ j IH =>
    intro o ho hp i hi
    obtain ⟨_, h2, h3⟩ := mks_spec ops.toList []
    have hj := h3 j o (by rw [Array.getElem?_toList]; exact ho)
    simp only [List.length_nil, Nat.zero_add] at hj h2
    rw [tb_eq, mOf, nth_eq, hj, Option.getD_some] at hi
    obtain ⟨e, he, hb, h4⟩ := mk1_bit hi
    have hins := hp e he hb
    rcases h4 with rfl | ⟨x, h5, h6⟩
    · exact hins
    · rw [List.getElem?_take] at h5
      split at h5
      · rename_i hlt
        have hjl : j < ops.size := (Array.getElem?_eq_some_iff.1 ho).1
        have hel : e.on < ops.size := by omega
        refine IH e.on hlt (ops[e.on]'hel) (by simp [hel]) (hc e.on _ (by simp [hel]) hins) i ?_
        rw [tb_eq, mOf, nth_eq, h5, Option.getD_some]; exact h6
      · cases h5
theorem memb_eq (x : Nat) : ∀ l : List Nat, memb x l = true ↔ x ∈ l
  | [] => by simp [memb]
  | a :: l => by
    have e : memb x (a :: l) = (Nat.beq x a || memb x l) := rfl
    rw [e, Bool.or_eq_true, Nat.beq_eq, memb_eq x l, List.mem_cons]
theorem chkPos_at {ops : Array Oper} {M : List Nat} : ∀ {A : List Nat} {pre : List Nat} {x : Nat} {B : List Nat}, chkPos ops M pre (A ++ x :: B) = true → posOk ops M (A.reverse ++ pre) x B = true
  | [], pre, x, B, h => by
    simp only [List.nil_append, chkPos, Bool.and_eq_true] at h
    simpa using h.1
  | a :: A, pre, x, B, h => by
    simp only [List.cons_append, chkPos, Bool.and_eq_true] at h
    have := chkPos_at h.2
    simpa using this

/-- one operation of a reckoning -/
structure RecOk (P : Program) (K : Known) (ih : Code → Nat → Env → St → Ex) (ops : Array Oper) (n : Nat) (r : Rec) (e : Env) : Prop where
  at_ : ops[r.i]? = some r.o
  put : aput n r.env r.o.dst r.v = some e
  does : (awant ops.toList r.env r.o = some true ∧ aopk P K ih r.S (rstR (r.o.looksAt ops) (evo K r.env)) r.o.op = .ok r.k r.v r.S' r.blk ∧ (r.k = 3 → stW r.o.op = true)) ∨
    (awant ops.toList r.env r.o = some false ∧ r.v = .tp [] ∧ r.k = 0 ∧ r.S' = r.S)
inductive Run (P : Program) (K : Known) (ih : Code → Nat → Env → St → Ex) (ops : Array Oper) (n : Nat) : List Rec → Env → St → Env → St → Prop
  | nil {e S} : Run P K ih ops n [] e S e S
  | cons {r L e1 e2 S2} : RecOk P K ih ops n r e1 → Run P K ih ops n L e1 r.S' e2 S2 → Run P K ih ops n (r :: L) r.env r.S e2 S2
variable {ih : Code → Nat → Env → St → Ex} {ops : Array Oper} {n : Nat}
theorem arun_ok {id : Nat} : ∀ {ord : List Nat} {env env' : Env} {S S' : St} {L : List Rec}, arun P K ih ops n id ord env S = .ok L env' S' → Run P K ih ops n L env S env' S' ∧ L.map (·.i) = ord
  | [], env, env', S, S', L, h => by simp only [arun, Rn.ok.injEq] at h; obtain ⟨rfl, rfl, rfl⟩ := h; exact ⟨.nil, rfl⟩
  | i :: ord, env, env', S, S', L, h => by
    simp only [arun] at h
    split at h
    · cases h
    rename_i o ho
    rw [nth_eq, Array.getElem?_toList] at ho
    split at h
    · rename_i hw
      split at h
      · rename_i k v S1 b hop
        cases hst : (bif Nat.beq k 3 then stW o.op else true) with
        | false => rw [hst] at h; cases h
        | true =>
        rw [hst, cond_true] at h
        split at h
        · rename_i env1 hp
          split at h
          · rename_i l e s hl
            simp only [Rn.ok.injEq] at h
            obtain ⟨rfl, rfl, rfl⟩ := h
            obtain ⟨h1, h2⟩ := arun_ok hl
            refine ⟨.cons (r := ⟨i, o, env, S, v, k, S1, b⟩) ⟨ho, hp, .inl ⟨hw, hop, fun hk => ?_⟩⟩ h1, by simp [h2]⟩
            simp only at hk
            subst hk
            exact hst
          · cases h
        · cases h
      · cases h
    · rename_i hw
      split at h
      · rename_i env1 hp
        split at h
        · rename_i l e s hl
          simp only [Rn.ok.injEq] at h
          obtain ⟨rfl, rfl, rfl⟩ := h
          obtain ⟨h1, h2⟩ := arun_ok hl
          exact ⟨.cons (r := ⟨i, o, env, S, .tp [], 0, S, .it 0 0 0⟩) ⟨ho, hp, .inr ⟨hw, rfl, rfl, rfl⟩⟩ h1, by simp [h2]⟩
        · cases h
      · cases h
    · cases h
theorem Run.split : ∀ {A B : List Rec} {e e2 : Env} {S S2 : St}, Run P K ih ops n (A ++ B) e S e2 S2 → ∃ e1 S1, Run P K ih ops n A e S e1 S1 ∧ Run P K ih ops n B e1 S1 e2 S2
  | [], B, e, e2, S, S2, h => ⟨e, S, .nil, h⟩
  | r :: A, B, e, e2, S, S2, h => by
    cases h with
    | cons h1 h2 =>
      obtain ⟨e1, S1, h3, h4⟩ := Run.split h2
      exact ⟨e1, S1, .cons h1 h3, h4⟩
theorem Run.join : ∀ {A B : List Rec} {e e1 e2 : Env} {S S1 S2 : St}, Run P K ih ops n A e S e1 S1 → Run P K ih ops n B e1 S1 e2 S2 → Run P K ih ops n (A ++ B) e S e2 S2
  | [], B, e, e1, e2, S, S1, S2, h, k => by cases h; exact k
  | r :: A, B, e, e1, e2, S, S1, S2, h, k => by
    cases h with
    | cons h1 h2 => exact .cons h1 (h2.join k)
/-- what the kinds of an operation say -/
theorem aopk_cases {S S' : St} {ρ : Rho} {o : Op} {k : Nat} {v : AV} {blk : Blk} (hS : Sound P K ih) (h : aopk P K ih S ρ o = .ok k v S' blk) :
    (k = 0 ∧ apure P ρ o = some v ∧ S' = S) ∨ (k = 1 ∧ ard P S.lk ρ o = some v ∧ S' = S) ∨
    (k = 2 ∧ (∃ f, aalloc P ρ o = some (blk, f) ∧ v = f S.nx) ∧ K.g ≤ S.nx ∧ S' = ⟨S.h.put (some blk) S.nx, S.nx + 1⟩) ∨
    (k = 3 ∧ S.nx ≤ S'.nx ∧ (awr P K.g S ρ o = some (v, S') ∨ ∃ f as, acallee ρ o = some (f, as) ∧ acallf P K ih S f as = .ok v S')) := by
  unfold aopk at h
  split at h
  · rename_i hv
    simp only [Kl.ok.injEq] at h
    obtain ⟨rfl, rfl, rfl, _⟩ := h
    exact .inl ⟨rfl, hv, rfl⟩
  split at h
  · rename_i hv
    simp only [Kl.ok.injEq] at h
    obtain ⟨rfl, rfl, rfl, _⟩ := h
    exact .inr (.inl ⟨rfl, hv, rfl⟩)
  split at h
  · rename_i b f hv
    cases hb : Nat.ble K.g S.nx with
    | false => rw [hb] at h; cases h
    | true =>
    rw [hb, cond_true] at h
    rw [Nat.ble_eq] at hb
    simp only [Kl.ok.injEq] at h
    obtain ⟨rfl, rfl, rfl, rfl⟩ := h
    exact .inr (.inr (.inl ⟨rfl, ⟨f, hv, rfl⟩, hb, rfl⟩))
  split at h
  · rename_i v1 S1 hv
    cases hb : Nat.ble S.nx S1.nx with
    | false => rw [hb] at h; cases h
    | true =>
    rw [hb, cond_true] at h
    rw [Nat.ble_eq] at hb
    simp only [Kl.ok.injEq] at h
    obtain ⟨rfl, rfl, rfl, _⟩ := h
    exact .inr (.inr (.inr ⟨rfl, hb, .inl hv⟩))
  split at h
  · rename_i f as hc
    split at h
    · rename_i v1 S1 hv
      simp only [Kl.ok.injEq] at h
      obtain ⟨rfl, rfl, rfl, _⟩ := h
      have hcl : S.nx ≤ S1.nx := by
        -- the number of the next block never falls
        unfold acallf at hv
        cases he : K.enter f with
        | false =>
          rw [he, cond_false] at hv
          split at hv
          · rename_i hx; cases hv; exact aext_le hx
          · cases hv
        | true =>
          rw [he, cond_true] at hv
          split at hv
          · cases hv
          rename_i fn hfn
          split at hv
          · cases hv
          rename_i c hc
          cases hb : Nat.ble (len as) fn.ntmps with
          | false => rw [hb] at hv; cases hv
          | true =>
          rw [hb, cond_true] at hv
          split at hv
          · cases hv
          · rename_i hi
            split at hv
            · cases hv; exact (hS _ _ _ _ _ _ _ hi).1
            · cases hv
          · rename_i hi
            split at hv
            · cases hv; exact (hS _ _ _ _ _ _ _ hi).1
            · cases hv
          · cases hv
      exact .inr (.inr (.inr ⟨rfl, hcl, .inr ⟨f, as, hc, hv⟩⟩))
    · cases h
  · cases h
theorem RecOk.le (hS : Sound P K ih) {r : Rec} {e : Env} (h : RecOk P K ih ops n r e) : r.S.nx ≤ r.S'.nx ∧ (r.k = 2 → r.S'.nx = r.S.nx + 1) ∧ (r.k = 0 ∨ r.k = 1 → r.S' = r.S) ∧ (r.k = 2 → r.S' = ⟨r.S.h.put (some r.blk) r.S.nx, r.S.nx + 1⟩) ∧ (r.k = 0 ∨ r.k = 1 ∨ r.k = 2 ∨ r.k = 3) := by
  rcases h.does with ⟨_, h1, _⟩ | ⟨_, _, h1, h2⟩
  · rcases aopk_cases hS h1 with ⟨h2, _, h3⟩ | ⟨h2, _, h3⟩ | ⟨h2, _, _, h3⟩ | ⟨h2, h3, _⟩
    · exact ⟨by rw [h3]; exact Nat.le_refl _, fun h => by omega, fun _ => h3, fun h => by omega, by omega⟩
    · exact ⟨by rw [h3]; exact Nat.le_refl _, fun h => by omega, fun _ => h3, fun h => by omega, by omega⟩
    · exact ⟨by rw [h3]; exact Nat.le_succ _, fun _ => by rw [h3], fun h => by omega, fun _ => h3, by omega⟩
    · exact ⟨h3, fun h => by omega, fun h => by omega, fun h => by omega, by omega⟩
  · exact ⟨by rw [h2]; exact Nat.le_refl _, fun h => by omega, fun _ => h2, fun h => by omega, by omega⟩
theorem Run.le (hS : Sound P K ih) : ∀ {L : List Rec} {e e2 : Env} {S S2 : St}, Run P K ih ops n L e S e2 S2 → S.nx ≤ S2.nx
  | _, _, _, _, _, .nil => Nat.le_refl _
  | _, _, _, _, _, .cons h1 h2 => Nat.le_trans (h1.le hS).1 (h2.le hS)
theorem Run.mem (hS : Sound P K ih) : ∀ {L : List Rec} {e e2 : Env} {S S2 : St}, Run P K ih ops n L e S e2 S2 → ∀ r ∈ L, S.nx ≤ r.S.nx ∧ r.S'.nx ≤ S2.nx ∧ ∃ e1, RecOk P K ih ops n r e1
  | _, _, _, _, _, .nil, r, h => by cases h
  | _, _, _, _, _, .cons (r := r0) h1 h2, r, h => by
    rcases List.mem_cons.1 h with rfl | h
    · exact ⟨Nat.le_refl _, h2.le hS, _, h1⟩
    · obtain ⟨a, b, c⟩ := h2.mem hS r h
      exact ⟨Nat.le_trans (h1.le hS).1 a, b, c⟩
/-- blocks behind a reckoning without writes -/
theorem Run.lks (hS : Sound P K ih) : ∀ {L : List Rec} {e e2 : Env} {S S2 : St}, Run P K ih ops n L e S e2 S2 → (∀ r ∈ L, r.k ≠ 3) → ∀ id b, S2.lk id = some b → S.lk id = some b ∨ ∃ r ∈ L, r.k = 2 ∧ r.S.nx = id ∧ r.blk = b
  | _, _, _, _, _, .nil, _, id, b, h => .inl h
  | _, _, _, _, _, .cons (r := r) h1 h2, hk, id, b, h => by
    obtain ⟨_, _, q3, q4, q5⟩ := h1.le hS
    rcases h2.lks hS (fun r' hr' => hk r' (List.mem_cons_of_mem _ hr')) id b h with h3 | ⟨r', h3, h4⟩
    · have := hk r List.mem_cons_self
      rcases q5 with q | q | q | q
      · rw [q3 (.inl q)] at h3; exact .inl h3
      · rw [q3 (.inr q)] at h3; exact .inl h3
      · rw [q4 q] at h3
        rcases T.get_put _ _ _ _ h3 with ⟨rfl, rfl⟩ | ⟨_, h5⟩
        · exact .inr ⟨r, List.mem_cons_self, q, rfl, rfl⟩
        · exact .inl h5
      · exact absurd q this
    · exact .inr ⟨r', List.mem_cons_of_mem _ h3, h4⟩

/-- what the places hold, of those operations that ran -/
def updF (f : Nat → Option AV) (d : Option Tmp) (v : AV) : Nat → Option AV := fun t => if d = some t then some v else f t
def foldE (p : Nat → Bool) : List Rec → (Nat → Option AV) → (Nat → Option AV)
  | [], f => f
  | r :: L, f => foldE p L (if p r.i then updF f r.o.dst r.v else f)
theorem foldE_append (p : Nat → Bool) : ∀ (A B : List Rec) (f : Nat → Option AV), foldE p (A ++ B) f = foldE p B (foldE p A f)
  | [], B, f => rfl
  | r :: A, B, f => foldE_append p A B _
theorem foldE_same {p q : Nat → Bool} {t : Nat} : ∀ {L : List Rec} {f g : Nat → Option AV}, (∀ r ∈ L, r.o.dst = some t → p r.i = q r.i) → f t = g t → foldE p L f t = foldE q L g t
  | [], f, g, h, e => e
  | r :: L, f, g, h, e => by
    show foldE p L (if p r.i then updF f r.o.dst r.v else f) t = foldE q L (if q r.i then updF g r.o.dst r.v else g) t
    refine foldE_same (fun r' hr' => h r' (List.mem_cons_of_mem _ hr')) ?_
    by_cases hd : r.o.dst = some t
    · rw [h r List.mem_cons_self hd]
      cases q r.i <;> simp [updF, hd, e]
    · cases hp : p r.i <;> cases hq : q r.i <;> simp [updF, hd, e]
theorem foldE_none {p : Nat → Bool} {t : Nat} : ∀ {L : List Rec} {f : Nat → Option AV}, (∀ r ∈ L, r.o.dst = some t → p r.i = false) → foldE p L f t = f t
  | [], f, h => rfl
  | r :: L, f, h => by
    rw [foldE, foldE_none (fun r' hr' => h r' (List.mem_cons_of_mem _ hr'))]
    by_cases hd : r.o.dst = some t
    · rw [h r List.mem_cons_self hd]; rfl
    · cases p r.i <;> simp [updF, hd]
theorem Run.env {L : List Rec} {e e2 : Env} {S S2 : St} (hr : Run P K ih ops n L e S e2 S2) : ∀ (f : Nat → Option AV), (∀ t a, eget e t = some a → f t = some a) → ∀ t a, eget e2 t = some a → foldE (fun _ => true) L f t = some a := by
  induction hr with
  | nil => intro f hf t a h; exact hf t a h
  | cons h1 h2 ihh =>
    rename_i r L e1 e2 S2
    intro f hf t a h
    refine ihh _ (fun t a hta => ?_) t a h
    have hp := aput_upd h1.put
    simp only [if_true]
    cases hd : r.o.dst with
    | none =>
      rw [hd] at hp
      obtain rfl : e1 = r.env := hp
      simp only [updF, hd, reduceCtorEq, if_false]
      exact hf t a hta
    | some d =>
      rw [hd] at hp
      rcases hp.2 t a hta with ⟨rfl, rfl⟩ | ⟨hne, h3⟩
      · simp [updF, hd]
      · have : ¬ (r.o.dst = some t) := by rw [hd]; intro e; exact hne (Option.some.inj e).symm
        have e : d ≠ t := fun e => hne e.symm
        simp only [updF, hd, Option.some.injEq, e, if_false]
        exact hf t a h3
end
end Am
