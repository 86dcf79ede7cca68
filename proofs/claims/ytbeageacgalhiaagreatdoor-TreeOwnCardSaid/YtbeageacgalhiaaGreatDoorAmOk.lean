/- A machine for closed runs: sound. No program in sight. -/
import Derived.Test.YtbeageacgalhiaaGreatDoorAmDr
set_option linter.unusedVariables false
set_option linter.unusedSimpArgs false
namespace Am
open Go
noncomputable section
variable {P : Program} {K : Known} {ih : Code → Nat → Env → St → Ex} {ops : Array Oper} {n : Nat}

def left (listed : Array Bool) : List Rec → Nat
  | [] => 0
  | r :: L => (if listed.getD r.i false = true then 0 else 1) + left listed L
theorem left_zero {listed : Array Bool} : ∀ {L : List Rec}, left listed L = 0 → ∀ r ∈ L, listed.getD r.i false = true
  | [], _, r, h => by cases h
  | r0 :: L, h, r, hr => by
    simp only [left] at h
    rcases List.mem_cons.1 hr with rfl | hr
    · by_cases hl : listed.getD r.i false = true
      · exact hl
      · rw [if_neg hl] at h; omega
    · exact left_zero (by omega) r hr
theorem left_le {l l' : Array Bool} (h : ∀ i, l.getD i false = true → l'.getD i false = true) : ∀ L : List Rec, left l' L ≤ left l L
  | [] => Nat.le_refl _
  | r :: L => by
    have := left_le h L
    simp only [left]
    by_cases h1 : l.getD r.i false = true
    · rw [if_pos h1, if_pos (h _ h1)]; omega
    · rw [if_neg h1]; split <;> omega
theorem left_lt {l l' : Array Bool} (h : ∀ i, l.getD i false = true → l'.getD i false = true) : ∀ {L : List Rec} {r : Rec}, r ∈ L → ¬ l.getD r.i false = true → l'.getD r.i false = true → left l' L < left l L
  | [], r, hr, _, _ => by cases hr
  | r0 :: L, r, hr, h1, h2 => by
    simp only [left]
    rcases List.mem_cons.1 hr with rfl | hr
    · have := left_le h L
      rw [if_pos h2, if_neg h1]; omega
    · have := left_lt h hr h1 h2
      by_cases h3 : l.getD r0.i false = true
      · rw [if_pos h3, if_pos (h _ h3)]; omega
      · rw [if_neg h3]; split <;> omega
theorem first_left {listed : Array Bool} : ∀ {L : List Rec}, left listed L ≠ 0 → ∃ A r B, L = A ++ r :: B ∧ (∀ q ∈ A, listed.getD q.i false = true) ∧ ¬ listed.getD r.i false = true
  | [], h => absurd rfl h
  | r :: L, h => by
    by_cases hl : listed.getD r.i false = true
    · simp only [left, if_pos hl, Nat.zero_add] at h
      obtain ⟨A, q, B, h1, h2, h3⟩ := first_left h
      exact ⟨r :: A, q, B, by rw [h1]; rfl, fun x hx => by
        rcases List.mem_cons.1 hx with rfl | hx
        · exact hl
        · exact h2 x hx, h3⟩
    · exact ⟨[], r, L, rfl, fun q hq => (by cases hq), hl⟩
theorem draw_all (hK : KnownOk P K) (hS : Sound P K ih) {L : List Rec} {env0 env2 : Env} {S S2 : St} {m0 : Map} {w0 : World} (hG0 : Gl K m0) (hrun : Run P K ih ops n L env0 S env2 S2)
    (hnd : ∀ A r B, L = A ++ r :: B → posOk ops (mks ops.toList []) ((A.map (·.i)).reverse) r.i (B.map (·.i)) = true)
    (hcov : ∀ j, j < ops.size → ∃ r ∈ L, r.i = j) (hrd : rdOk P K ops (mks ops.toList []) L S = true) (Q : Exit → Act → World → Prop)
    (hq : ∀ listed a w, Inv P K ih ops n L env0 S env2 S2 m0 w0 listed a w → (∀ r ∈ L, listed.getD r.i false = true) → Q .normal a w) :
    ∀ (fuel : Nat) (listed : Array Bool) (a : Act) (w : World), Inv P K ih ops n L env0 S env2 S2 m0 w0 listed a w → left listed L ≤ fuel → wpAny P .any ops Q fuel listed a w := by
  have hready : ∀ listed a w, Inv P K ih ops n L env0 S env2 S2 m0 w0 listed a w → Region.ready .any ops listed = [] → ∀ r ∈ L, listed.getD r.i false = true := by
    intro listed a w I he
    by_cases h0 : left listed L = 0
    · exact left_zero h0
    · obtain ⟨A, r, B, h1, h2, h3⟩ := first_left h0
      have hp := hnd A r B h1
      unfold posOk at hp
      split at hp
      · cases hp
      · rename_i o ho
        rw [nth_eq, Array.getElem?_toList] at ho
        simp only [Bool.and_eq_true] at hp
        have hlin := List.all_eq_true.1 hp.1.2.1
        have : r.i ∈ Region.ready .any ops listed := by
          rw [mem_ready]
          refine ⟨?_, o, ho, fun e he hb => ?_⟩
          · have hl : r.i < listed.size := by rw [I.size]; exact (Array.getElem?_eq_some_iff.1 ho).1
            simp only [Array.getD_eq_getD_getElem?, Array.getElem?_eq_getElem hl, Option.getD_some] at h3 ⊢
            simpa using h3
          · have h4 := hlin e (by simpa using he)
            rw [hb, cond_true, memb_eq, List.mem_reverse] at h4
            obtain ⟨q, h5, h6⟩ := List.mem_map.1 h4
            rw [← h6]; exact h2 q h5
        rw [he] at this
        cases this
  have hnone : ∀ listed a w, Inv P K ih ops n L env0 S env2 S2 m0 w0 listed a w → (∀ r ∈ L, listed.getD r.i false = true) → Region.ready .any ops listed = [] := by
    intro listed a w I hall
    rw [List.eq_nil_iff_forall_not_mem]
    intro j hj
    obtain ⟨h1, o, ho, _⟩ := mem_ready.1 hj
    have hjl : j < ops.size := (Array.getElem?_eq_some_iff.1 ho).1
    obtain ⟨r, hr, rfl⟩ := hcov j hjl
    have h2 := hall r hr
    have hl : r.i < listed.size := by rw [I.size]; exact hjl
    simp only [Array.getD_eq_getD_getElem?, Array.getElem?_eq_getElem hl, Option.getD_some] at h1 h2
    rw [h1] at h2; cases h2
  intro fuel
  induction fuel with
  | zero =>
    intro listed a w I hl
    have hall := left_zero (Nat.le_zero.1 hl)
    exact ⟨hnone listed a w I hall, hq listed a w I hall⟩
  | succ fuel IH =>
    intro listed a w I hl
    refine ⟨fun he => hq listed a w I (hready listed a w I he), fun j hj => ?_⟩
    obtain ⟨h1, o, ho, _⟩ := mem_ready.1 hj
    have hjl : j < ops.size := (Array.getElem?_eq_some_iff.1 ho).1
    have hjs : j < listed.size := by rw [I.size]; exact hjl
    refine wpOp_mono (fun a' w' I' => IH _ a' w' I' ?_) (draw_step hK hS hG0 hnd hcov hrd I hj Q)
    obtain ⟨r, hr, rfl⟩ := hcov j hjl
    have := left_lt (l := listed) (l' := listed.setIfInBounds r.i true) (fun i hi => (set_getD hjs i).2 (.inl hi)) hr (by
      intro h2
      simp only [Array.getD_eq_getD_getElem?, Array.getElem?_eq_getElem hjs, Option.getD_some] at h1 h2
      rw [h1] at h2; cases h2) ((set_getD hjs r.i).2 (.inr rfl))
    omega
theorem adraw_ok (hK : KnownOk P K) : DrawOk P K (adraw P K) := by
  intro ih hS ops n id env S env' S' h
  unfold adraw at h
  split at h
  · cases h
  rename_i ord M hst
  split at h
  · cases h
  rename_i L e S2 harun
  cases hrd : rdOk P K ops M L S with
  | false => rw [hrd] at h; cases h
  | true =>
  rw [hrd, cond_true] at h
  cases h
  obtain ⟨hrun, hord⟩ := arun_ok harun
  unfold stat stat2 at hst
  cases hb : ((Nat.beq (len (ordOf ops.toList (mks ops.toList []))) (len ops.toList) && (List.range (len ops.toList)).all (fun j => memb j (ordOf ops.toList (mks ops.toList [])))) && chkPos ops (mks ops.toList []) [] (ordOf ops.toList (mks ops.toList []))) with
  | false => rw [hb] at hst; cases hst
  | true =>
  rw [hb, cond_true] at hst
  obtain ⟨rfl, rfl⟩ := Prod.mk.inj (Option.some.inj hst)
  rw [Bool.and_eq_true, Bool.and_eq_true, Nat.beq_eq, len_eq, len_eq] at hb
  obtain ⟨⟨hb0, hb1⟩, hb2⟩ := hb
  rw [← hord, List.length_map] at hb0
  have hnd : ∀ A r B, L = A ++ r :: B → posOk ops (mks ops.toList []) ((A.map (·.i)).reverse) r.i (B.map (·.i)) = true := by
    intro A r B hL
    rw [← hord, hL] at hb2
    simp only [List.map_append, List.map_cons] at hb2
    have := chkPos_at hb2
    simpa using this
  have hcov : ∀ j, j < ops.size → ∃ r ∈ L, r.i = j := by
    intro j hj
    have h1 := List.all_eq_true.1 hb1 j (by rw [List.mem_range]; simpa using hj)
    rw [memb_eq, ← hord] at h1
    obtain ⟨r, h2, h3⟩ := List.mem_map.1 h1
    exact ⟨r, h2, h3⟩
  refine ⟨hrun.le hS, fun m a w hR hf hG hE hn hd Q hq => wp_region_any hK.mixed ?_⟩
  refine draw_all (m0 := m) (w0 := w) hK hS hG hrun hnd hcov hrd Q (fun listed a' w' I hall => ?_) ops.size _ a _ ?_ ?_
  · obtain ⟨m', A, B, U, eA, SA, hL, hA, hB, _, hRA, hRB, _, hU1, hU2, _, hst', henv⟩ := I.rest
    have hsub : ∀ id b, S'.lk id = some b → U id = some b := by
      intro id b hb
      rcases hRB.lks hS (fun r hr => hB r hr (hall r (by rw [hL]; exact List.mem_append_right _ hr))) id b hb with h1 | ⟨r, h1, h2, h3, h4⟩
      · exact hU1 id b h1
      · rw [← h3, ← h4]; exact hU2 r h1 (hall r (by rw [hL]; exact List.mem_append_right _ h1)) h2
    refine hq m' a' w' (hst'.weaken (fun id b hb => ⟨b, hsub id b hb, fun h => h⟩) (fun id b _ hb => hsub id b hb)) (fun t x hx => ?_) I.tmps I.defers
    have h1 := hrun.env (eget env) (fun _ _ h => h) t x hx
    rw [foldE_same (q := fun i => listed.getD i false) (g := eget env) (fun r hr _ => (hall r hr).symm) rfl] at h1
    exact henv t x h1
  · have hfalse : ∀ i, ¬ (Array.replicate ops.size false).getD i false = true := by
      intro i
      simp only [Array.getD_eq_getD_getElem?]
      by_cases hi : i < ops.size
      · simp [hi]
      · simp [hi]
    refine ⟨by simp, fun j o _ h1 => absurd h1 (hfalse j), hn, hd, m, [], L, S.lk, env, S, rfl, fun r hr => (by cases hr), fun r _ h1 => absurd h1 (hfalse r.i), .inl rfl, .nil, hrun, fun id b hb i1 i2 => ?_, fun id b hb => hb, fun r _ h1 => absurd h1 (hfalse r.i), fun id i1 i2 i3 => absurd (hf id i1 i2) i3, ?_, fun t x hx => ?_⟩
    · obtain ⟨LL, h1, _⟩ := (hR.holds id b hb).loc
      rw [hf id i1 i2] at h1; cases h1
    · exact (Step.drew (w' := { w with drawn := w.drawn + 1 }) hR rfl rfl rfl rfl).widen (Nat.le_refl _) (hrun.le hS)
    · rw [foldE_none (fun r _ _ => Bool.eq_false_iff.2 (hfalse r.i))] at hx
      exact hE t x hx
  · have : ∀ (L : List Rec) (l : Array Bool), left l L ≤ L.length := by
      intro L l
      induction L with
      | nil => exact Nat.le_refl _
      | cons r L ih => simp only [left, List.length_cons]; split <;> omega
    have h2 := this L (Array.replicate ops.size false)
    rw [hb0, Array.length_toList] at h2
    exact h2
end
end Am
