/- A machine for closed runs: a long run in parts: what is known at a cut. No program in sight. -/
import Derived.Test.YtbeageacgalhiaaGreatDoorAmCf
set_option linter.unusedVariables false
set_option linter.unusedSimpArgs false
namespace Am
open Go
noncomputable section
variable {P : Program} {K : Known}

/-- more may have been known before -/
theorem Step.more {g : Nat} {m m' : Map} {lk lk2 lk' : Lk} {nx nx' : Nat} {w w' : World} (h : Step g m lk nx w m' lk' nx' w') (hs : ∀ id b, lk id = some b → lk2 id = some b) : Step g m lk2 nx w m' lk' nx' w' where
  ext := h.ext
  dom := h.dom
  le := h.le
  rel := h.rel
  os := h.os
  tape := h.tape
  output := h.output
  size := h.size
  fr := fun k hk hn => h.fr k hk fun id blk L h1 h2 h3 => hn id blk L h1 (hs id blk h2) h3
  img := fun id blk L h1 h2 h3 => by
    rcases h.img id blk L h1 h2 h3 with h4 | ⟨id0, blk0, L0, h4, h5, h6, h7⟩
    · exact .inl h4
    · exact .inr ⟨id0, blk0, L0, h4, hs _ _ h5, h6, h7⟩
  glob := fun id b hid hb => hs _ _ (h.glob id b hid hb)
  keep := fun id b hb => by
    rcases h.keep id b hb with ⟨b0, h1⟩ | h1
    · exact .inl ⟨b0, hs _ _ h1⟩
    · exact .inr h1
theorem R.less {lk lk2 : Lk} {m : Map} {w : World} (h : R lk2 m w) (hs : ∀ id b, lk id = some b → lk2 id = some b) : R lk m w :=
  ⟨fun id b hb => h.holds id b (hs id b hb), fun id id' b b' L L' h1 h2 => h.inj id id' b b' L L' (hs _ _ h1) (hs _ _ h2)⟩
/-- behind the first parts of a sequence: what is sound from there is sound from here -/
def Reach (P : Program) (K : Known) (nt : Nat) (c : Code) (env : Env) (S : St) (c' : Code) (env' : Env) (S' : St) : Prop :=
  ∀ o eF SF, SoundAt P K c' nt env' S' o eF SF → SoundAt P K c nt env S o eF SF
theorem reach_seq {nt : Nat} {a b c' : Code} {env env1 env' : Env} {S S1 S' : St} (h1 : SoundAt P K a nt env S .norm env1 S1) (h2 : Reach P K nt b env1 S1 c' env' S') : Reach P K nt (.seq a b) env S c' env' S' :=
  fun o eF SF h => sound_seq h1 (h2 o eF SF h)
theorem Reach.less {nt : Nat} {c c' : Code} {env env' env2 : Env} {S S' S2 : St} (h : Reach P K nt c env S c' env' S') (he : ∀ t a, eget env2 t = some a → eget env' t = some a) (hs : ∀ id b, S2.lk id = some b → S'.lk id = some b) (hn : S2.nx = S'.nx) : Reach P K nt c env S c' env2 S2 := by
  intro o eF SF hS
  refine h o eF SF ?_
  obtain ⟨l1, q1⟩ := hS
  refine ⟨by rw [← hn]; exact l1, fun m a w hR hf hG hE ht hd Q hq => ?_⟩
  refine q1 m a w (hR.less hs) (by rw [hn]; exact hf) hG (fun t b hb => hE t b (he t b hb)) ht hd Q fun m' a' w' st => ?_
  have st' := st.more hs
  rw [hn] at st'
  exact hq m' a' w' st'

def dropS : Nat → Code → Code
  | 0, c => c
  | j + 1, .seq _ b => dropS j b
  | _ + 1, c => c
def kBad (l : List Nat) : G := fun _ _ _ => .bad l
/-- the first 'j' parts of a sequence -/
def runS (P : Program) (K : Known) (draw : Draw) (ih : H) (nt : Nat) (k : G) : Nat → Code → G
  | 0, _ => k
  | j + 1, .seq a b => fun n t S => unB (cc P K draw nt a) fun q => q ih (runS P K draw ih nt k j b) (kBad [901, j]) (fun i => kBad [902, i]) n t S
  | _ + 1, _ => kBad [903]
theorem runS_ok (hK : KnownOk P K) {draw : Draw} (hD : DrawOk P K draw) {ih : H} (hi : HOk P K ih) {nt : Nat} {k : G} : ∀ (j : Nat) (c : Code) n t S o1 e1 S1, runS P K draw ih nt k j c n t S = .out o1 e1 S1 →
    ∃ n' t' S', k n' t' S' = .out o1 e1 S1 ∧ Reach P K nt c ⟨n, t⟩ S (dropS j c) ⟨n', t'⟩ S'
  | 0, c, n, t, S, o1, e1, S1, h => ⟨n, t, S, h, fun o eF SF h => h⟩
  | j + 1, .seq a b, n, t, S, o1, e1, S1, h => by
    have h : unB (cc P K draw nt a) (fun q => q ih (runS P K draw ih nt k j b) (kBad [901, j]) (fun i => kBad [902, i]) n t S) = .out o1 e1 S1 := h
    obtain ⟨q, hq, hq'⟩ := cc_ok hK hD (fun nt all o => cop_ok hK nt all o) (nt := nt) a
    rw [hq] at h
    obtain ⟨o, n1, t1, S2, h1, h2⟩ := hq' _ _ _ _ _ _ _ _ _ _ hi h
    cases o with
    | norm =>
      obtain ⟨n', t', S', h3, h4⟩ := runS_ok hK hD hi j b n1 t1 S2 o1 e1 S1 h1
      exact ⟨n', t', S', h3, reach_seq h2 h4⟩
    | exit i => cases h1
    | ret => cases h1
  | j + 1, .skip, n, t, S, o1, e1, S1, h => by cases h
  | j + 1, .region _ _ _, n, t, S, o1, e1, S1, h => by cases h
  | j + 1, .cond _ _ _, n, t, S, o1, e1, S1, h => by cases h
  | j + 1, .block _ _, n, t, S, o1, e1, S1, h => by cases h
  | j + 1, .loop _, n, t, S, o1, e1, S1, h => by cases h
  | j + 1, .rangeFunc _ _ _ _, n, t, S, o1, e1, S1, h => by cases h
  | j + 1, .exit _, n, t, S, o1, e1, S1, h => by cases h
  | j + 1, .scope _, n, t, S, o1, e1, S1, h => by cases h
  | j + 1, .label _, n, t, S, o1, e1, S1, h => by cases h
  | j + 1, .goto _, n, t, S, o1, e1, S1, h => by cases h
  | j + 1, .ret, n, t, S, o1, e1, S1, h => by cases h
  | j + 1, .refuse _, n, t, S, o1, e1, S1, h => by cases h
/-! what is kept at a cut -/
def litE (l : List (Nat × AV)) : Env := l.foldl (fun e p => eput e p.1 p.2) enew
def litH (l : List (Nat × Blk)) : T Blk := l.foldl (fun h p => h.put (some p.2) p.1) (full Blk 7)
def litS (l : List (Nat × Blk)) (nx : Nat) : St := ⟨litH l, nx⟩
def eqe : AV × AV × Nat → AV × AV × Nat → Bool := fun x y => (eqb x.1 y.1 && eqb x.2.1 y.2.1) && Nat.beq x.2.2 y.2.2
def eqes : List (AV × AV × Nat) → List (AV × AV × Nat) → Bool
  | [], [] => true
  | x :: l, y :: k => eqe x y && eqes l k
  | _, _ => false
def eqB : Blk → Blk → Bool
  | .cells t cs fz ex, .cells t' cs' fz' ex' => (Nat.beq t t' && eqbs cs cs') && (Nat.beq fz fz' && (ex == ex'))
  | .map es ck, .map es' ck' => eqes es es' && Nat.beq ck ck'
  | .it n x p, .it n' x' p' => (Nat.beq n n' && Nat.beq x x') && Nat.beq p p'
  | _, _ => false
theorem eqe_ok {x y : AV × AV × Nat} (h : eqe x y = true) : x = y := by
  obtain ⟨a, b, c⟩ := x
  obtain ⟨a', b', c'⟩ := y
  simp only [eqe, Bool.and_eq_true, Nat.beq_eq] at h
  rw [eqb_ok _ h.1.1, eqb_ok _ h.1.2, h.2]
theorem eqes_ok : ∀ {l k : List (AV × AV × Nat)}, eqes l k = true → l = k
  | [], [], _ => rfl
  | x :: l, y :: k, h => by
    simp only [eqes, Bool.and_eq_true] at h
    rw [eqe_ok h.1, eqes_ok h.2]
  | [], _ :: _, h => by cases h
  | _ :: _, [], h => by cases h
theorem eqB_ok {x y : Blk} (h : eqB x y = true) : x = y := by
  cases x <;> cases y <;> simp only [eqB, Bool.and_eq_true, Nat.beq_eq, beq_iff_eq, Bool.false_eq_true] at h
  · rw [h.1.1, eqbs_ok _ h.1.2, h.2.1, h.2.2]
  · rw [eqes_ok h.1, h.2]
  · rw [h.1.1, h.1.2, h.2]
def chkE (e : Env) : List (Nat × AV) → Bool
  | [] => true
  | p :: l => (match eget e p.1 with
    | some a => eqb p.2 a
    | none => false) && chkE e l
def chkH (S : St) : List (Nat × Blk) → Bool
  | [] => true
  | p :: l => (match S.h.get p.1 with
    | some b => eqB p.2 b
    | none => false) && chkH S l
def chk (le : List (Nat × AV)) (lh : List (Nat × Blk)) (nx : Nat) : G := fun n t S => cnd ((chkE ⟨n, t⟩ le && chkH S lh) && Nat.beq nx S.nx) (.out .norm enew ⟨.vl none, 0⟩) (.bad [904])
theorem chkE_ok {e : Env} : ∀ {l : List (Nat × AV)} (e0 : Env), chkE e l = true → ∀ t a, eget (l.foldl (fun e p => eput e p.1 p.2) e0) t = some a → eget e0 t = some a ∨ eget e t = some a
  | [], e0, _, t, a, h => .inl h
  | p :: l, e0, hc, t, a, h => by
    simp only [chkE, Bool.and_eq_true] at hc
    rcases chkE_ok (eput e0 p.1 p.2) hc.2 t a h with h1 | h1
    · rcases eget_eput h1 with ⟨rfl, rfl⟩ | ⟨_, h2⟩
      · have h3 := hc.1
        split at h3
        · rename_i b hb
          exact .inr (by rw [hb, eqb_ok _ h3])
        · cases h3
      · exact .inl h2
    · exact .inr h1
theorem chkH_ok {S : St} : ∀ {l : List (Nat × Blk)} (h0 : T Blk), chkH S l = true → ∀ id b, (l.foldl (fun h p => h.put (some p.2) p.1) h0).get id = some b → h0.get id = some b ∨ S.h.get id = some b
  | [], h0, _, id, b, h => .inl h
  | p :: l, h0, hc, id, b, h => by
    simp only [chkH, Bool.and_eq_true] at hc
    rcases chkH_ok (h0.put (some p.2) p.1) hc.2 id b h with h1 | h1
    · rcases T.get_put _ _ _ _ h1 with ⟨rfl, rfl⟩ | ⟨_, h2⟩
      · have h3 := hc.1
        split at h3
        · rename_i b2 hb
          exact .inr (by rw [hb, eqB_ok h3])
        · cases h3
      · exact .inl h2
    · exact .inr h1
theorem full_get {α : Type} : ∀ (k n : Nat), (full α k).get n = none
  | 0, n => by show (T.vl none).get n = none; rw [T.get_vl]; split <;> rfl
  | k + 1, n => by
    show (T.nd (full α k) (full α k) (full α k) (full α k)).get n = none
    rw [T.get_nd]
    repeat' split
    all_goals exact full_get k _
theorem chk_out {le : List (Nat × AV)} {lh : List (Nat × Blk)} {nx n : Nat} {t : T AV} {S : St} {o1 : Out} {e1 : Env} {S1 : St} (h : chk le lh nx n t S = .out o1 e1 S1) :
    (∀ d a, eget (litE le) d = some a → eget ⟨n, t⟩ d = some a) ∧ (∀ id b, (litS lh nx).lk id = some b → S.lk id = some b) ∧ nx = S.nx := by
  unfold chk at h
  rw [cnd_eq] at h
  split at h
  · rename_i hc
    rw [Bool.and_eq_true, Bool.and_eq_true, Nat.beq_eq] at hc
    refine ⟨fun d a hd => ?_, fun id b hb => ?_, hc.2⟩
    · rcases chkE_ok enew hc.1.1 d a hd with h1 | h1
      · rw [eget_new] at h1; cases h1
      · exact h1
    · rcases chkH_ok (full Blk 7) hc.1.2 id b hb with h1 | h1
      · rw [full_get] at h1; cases h1
      · exact h1
  · cases h
def isOut (F : Fin) : Bool := Fin.rec (motive := fun _ => Bool) (fun _ _ _ => true) (fun _ => false) F
theorem isOut_ok {F : Fin} (h : isOut F = true) : ∃ o e S, F = .out o e S := by
  cases F with
  | out o e S => exact ⟨o, e, S, rfl⟩
  | bad l => cases h
def runE (g : G) (e : Env) (S : St) : Fin := Env.rec (motive := fun _ => Fin) (fun n t => g n t S) e
/-- a part of a run: from what is known to what is known -/
theorem part_ok (hK : KnownOk P K) {fuel nt j : Nat} {c : Code} {env : Env} {S : St} {le : List (Nat × AV)} {lh : List (Nat × Blk)} {nx : Nat}
    (h : isOut (runE (runS P K (adraw P K) (hN P K (adraw P K) fuel) nt (chk le lh nx) j c) env S) = true) : Reach P K nt c env S (dropS j c) (litE le) (litS lh nx) := by
  obtain ⟨o, e, S1, h⟩ := isOut_ok h
  obtain ⟨n, t⟩ := env
  obtain ⟨n', t', S', h1, h2⟩ := runS_ok hK (adraw_ok hK) (hN_ok hK (adraw_ok hK) (fun nt all o => cop_ok hK nt all o) fuel) j c n t S o e S1 h
  obtain ⟨h3, h4, h5⟩ := chk_out h1
  exact h2.less h3 h4 h5
/-- the last part: it returns, and 'r' holds 'v' -/
def chkR (r : Nat) (v : AV) : G := fun n t S => cnd (chkE ⟨n, t⟩ [(r, v)]) (.out .norm ⟨n, t⟩ S) (.bad [905])
theorem last_ok (hK : KnownOk P K) {fuel nt : Nat} {c : Code} {env : Env} {S : St} {r : Nat} {v : AV}
    (h : isOut (runE (fun n t S => hN P K (adraw P K) (Nat.succ fuel) c nt (chkR r v) (chkR r v) n t S) env S) = true) : ∃ o env' S', (o = .norm ∨ o = .ret) ∧ SoundAt P K c nt env S o env' S' ∧ eget env' r = some v := by
  obtain ⟨o, e, S1, h⟩ := isOut_ok h
  obtain ⟨n, t⟩ := env
  obtain ⟨oo, n', t', S', h1, h2⟩ := hN_ok hK (adraw_ok hK) (fun nt all o => cop_ok hK nt all o) (Nat.succ fuel) _ _ _ _ _ _ _ _ _ _ h
  have h3 : chkR r v n' t' S' = .out o e S1 := by rcases h1 with ⟨_, h1⟩ | ⟨_, h1⟩ <;> exact h1
  refine ⟨oo, ⟨n', t'⟩, S', by rcases h1 with ⟨h1, _⟩ | ⟨h1, _⟩; exact .inl h1; exact .inr h1, h2, ?_⟩
  unfold chkR at h3
  rw [cnd_eq] at h3
  split at h3
  · rename_i hc
    simp only [chkE, Bool.and_true] at hc
    split at hc
    · rename_i a ha
      rw [ha, eqb_ok _ hc]
    · cases hc
  · cases h3
end
end Am
