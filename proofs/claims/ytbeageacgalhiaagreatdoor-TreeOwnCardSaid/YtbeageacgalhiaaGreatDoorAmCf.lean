/- A machine for closed runs: stores, parts of tuples, new blocks, all together; a run is sound. No program in sight. -/
import Derived.Test.YtbeageacgalhiaaGreatDoorAmCe
set_option linter.unusedVariables false
set_option linter.unusedSimpArgs false
namespace Am
open Go
noncomputable section
variable {P : Program} {K : Known} {nt : Nat} {dst : Option Tmp} {x y : Operand} {f f' : Nat → Nat} {g g' : T AV → Option AV}

theorem tag_cases {Q : Prop} {a : Nat} {l : List Nat} (h : a ∈ l) (hq : ∀ b ∈ l, a = b → Q) : Q := hq a h rfl
theorem fEq_ok {op : BinOp} {c : Nat → Nat} (hc : EqOp op c) {ty uy : TypeId} : FastOk P K nt dst (.binOp op ty x y uy) (fEq P K nt op c ty x y) := by
  obtain ⟨f, g, hf, hg, hx⟩ := oc_ok (K := K) x nt
  obtain ⟨f', g', hf', hg', hy⟩ := oc_ok (K := K) y nt
  have hx : OpdOk K x f g := hx
  have hy : OpdOk K y f' g' := hy
  unfold fEq
  rw [hf, hf']
  show FastOk P K nt dst _ (match und P ty with
    | some .string => unB (bxB K nt x) fun g => unB (bxB K nt y) fun g' => fStrE c f g f' g'
    | some (.pointer _) => fNils (fun c => vNp c) 16 c f f'
    | some (.slice _) => fNils (fun c => vNs c) 17 c f f'
    | some (.map _ _) => fNils (fun c => vNm c) 20 c f f'
    | _ => fBin op f f')
  have dg : ∀ (c : Nat) (bx : Option AV), dec c bx = decG (c % 32) (c / 32) bx := fun _ _ => rfl
  split
  · rw [hg, hg']; exact fStrE_ok hc hx hy
  · rename_i e he
    refine fNils_ok hc hx hy fun c c' bx bx' h1 h2 hor => ?_
    have r : ∀ c, vNp c = 0 → c % 32 = 3 ∨ c % 32 = 16 := fun c h => by
      have h : (c % 32 ^^^ 3) * (c % 32 ^^^ 16) = 0 := h
      rcases Nat.mul_eq_zero.1 h with h | h
      · exact .inl (xor_zero h)
      · exact .inr (xor_zero h)
    rw [dg c, dg c']
    rcases r c h1 with e1 | e1 <;> rcases r c' h2 with e2 | e2 <;> rw [e1, e2]
    · omega
    · exact ⟨_, _, rfl, rfl, by simp only [abinq, aoi, abin, aeq, aeq0, he]; rfl, by simp only [abinq, aoi, abin, aeq, aeq0, he]; rfl⟩
    · exact ⟨_, _, rfl, rfl, by simp only [abinq, aoi, abin, aeq, aeq0, he]; rfl, by simp only [abinq, aoi, abin, aeq, aeq0, he]; rfl⟩
    · exact ⟨_, _, rfl, rfl, by simp only [abinq, aoi, abin, aeq, aeq0, he]; rfl, by simp only [abinq, aoi, abin, aeq, aeq0, he]; rfl⟩
  · rename_i e he
    refine fNils_ok hc hx hy fun c c' bx bx' h1 h2 hor => ?_
    have r : ∀ c, vNs c = 0 → c % 32 = 17 ∨ c % 32 = 18 ∨ c % 32 = 19 := fun c h => by
      obtain ⟨h1, h2⟩ := add0 h
      have h1 : 17 ≤ c % 32 := sub0 h1
      have h2 : c % 32 ≤ 19 := sub0 h2
      omega
    rw [dg c, dg c']
    rcases r c h1 with e1 | e1 | e1 <;> rcases r c' h2 with e2 | e2 | e2 <;> rw [e1, e2] <;> first
      | omega
      | exact ⟨_, _, rfl, rfl, by simp only [abinq, aoi, abin, aeq, aeq0, he, dsl]; rfl, by simp only [abinq, aoi, abin, aeq, aeq0, he, dsl]; rfl⟩
  · rename_i e he
    refine fNils_ok hc hx hy fun c c' bx bx' h1 h2 hor => ?_
    have r : ∀ c, vNm c = 0 → c % 32 = 20 ∨ c % 32 = 21 := fun c h => by
      obtain ⟨h1, h2⟩ := add0 h
      have h1 : 20 ≤ c % 32 := sub0 h1
      have h2 : c % 32 ≤ 21 := sub0 h2
      omega
    rw [dg c, dg c']
    rcases r c h1 with e1 | e1 <;> rcases r c' h2 with e2 | e2 <;> rw [e1, e2] <;> first
      | omega
      | exact ⟨_, _, rfl, rfl, by simp only [abinq, aoi, abin, aeq, aeq0, he]; rfl, by simp only [abinq, aoi, abin, aeq, aeq0, he]; rfl⟩
  · exact fBin_ok op hx hy
/-! a store -/
theorem one1_ok {t : TypeId} (h : one1 P t = 0) : szo P t = some 1 := by
  unfold one1 at h
  split at h
  · rename_i n hn
    obtain ⟨h1, h2⟩ := add0 h
    have h1 := sub0 h1
    have h2 := sub0 h2
    rw [hn, show n = 1 by omega]
  · cases h
theorem vUn_one {c : Nat} (h : vUn c = 0) : ∃ a, (∀ bx, dec c bx = some a) ∧ onec a = true ∧ cel a = [a] := by
  obtain ⟨h1, h2⟩ := add0 h
  have h1 : 2 ≤ c % 32 := sub0 h1
  have h2 : c % 32 ≤ 23 := sub0 h2
  have key : ∃ a, (∀ bx, decG (c % 32) (c / 32) bx = some a) ∧ onec a = true ∧ cel a = [a] := by
    generalize c / 32 = p
    generalize c % 32 = t at h1 h2
    have : t = 2 ∨ t = 3 ∨ t = 4 ∨ t = 5 ∨ t = 6 ∨ t = 7 ∨ t = 8 ∨ t = 9 ∨ t = 10 ∨ t = 11 ∨ t = 12 ∨ t = 13 ∨ t = 14 ∨ t = 15 ∨ t = 16 ∨ t = 17 ∨ t = 18 ∨ t = 19 ∨ t = 20 ∨ t = 21 ∨ t = 22 ∨ t = 23 := by omega
    rcases this with rfl | rfl | rfl | rfl | rfl | rfl | rfl | rfl | rfl | rfl | rfl | rfl | rfl | rfl | rfl | rfl | rfl | rfl | rfl | rfl | rfl | rfl <;> exact ⟨_, fun bx => rfl, rfl, rfl⟩
  exact key
theorem fStore_ok (hK : KnownOk P K) {ty : TypeId} (hx : OpdOk K x f g) (hy : OpdOk K y f' g') : FastOk P K nt none (.store ty x y) (fStore P K ty f f') := by
  intro m hm ih k n t S o1 e1 S1 hi h
  cases hc : Nat.beq (Nat.add (Nat.add (vP (f n)) (one1 P ty)) (vUn (f' n))) 0 with
  | false =>
    have h : (Bool.rec (m ih k n t S) _ (Nat.beq (Nat.add (Nat.add (vP (f n)) (one1 P ty)) (vUn (f' n))) 0) : Fin) = .out o1 e1 S1 := h
    rw [hc] at h
    exact hm ih k n t S o1 e1 S1 hi h
  | true =>
    have h : (Bool.rec (m ih k n t S) (Option.rec (m ih k n t S) (fun S' => k n t S') (ob (S.h.get (m32 (pl (f n)))) fun b => stB b K.g S (m32 (pl (f n))) (d32 (pl (f n))) (valC (f' n)))) (Nat.beq (Nat.add (Nat.add (vP (f n)) (one1 P ty)) (vUn (f' n))) 0) : Fin) = .out o1 e1 S1 := h
    rw [hc] at h
    rw [Nat.beq_eq] at hc
    obtain ⟨h1, h2⟩ := add0 hc
    obtain ⟨h1, h3⟩ := add0 h1
    obtain ⟨a, ha, hone, hcel⟩ := vUn_one h2
    have hva : valC (f' n) = a := by unfold valC; rw [ha]
    have hp := p_op hx (t := t) h1
    have hv : evo K ⟨n, t⟩ y = some a := by rw [(hy n).2 t, ha]
    cases hb : S.h.get (m32 (pl (f n))) with
    | none =>
      rw [hb] at h
      exact hm ih k n t S o1 e1 S1 hi h
    | some b =>
      rw [hb] at h
      have h : (Option.rec (m ih k n t S) (fun S' => k n t S') (stB b K.g S (m32 (pl (f n))) (d32 (pl (f n))) (valC (f' n))) : Fin) = .out o1 e1 S1 := h
      cases hs : stB b K.g S (m32 (pl (f n))) (d32 (pl (f n))) (valC (f' n)) with
      | none =>
        rw [hs] at h
        exact hm ih k n t S o1 e1 S1 hi h
      | some S2 =>
        rw [hs] at h
        refine ⟨n, t, S2, h, fun o ho1 ho2 => ?_⟩
        have hst : awr P K.g S (evo K ⟨n, t⟩) (.store ty x y) = some (.tp [], S2) ∧ S2.nx = S.nx := by
          cases b with
          | map _ _ => cases hs
          | it _ _ _ => cases hs
          | cells t' cs fz ex =>
            have hs : (Bool.rec none (some ⟨S.h.put (some (.cells t' (putR (d32 (pl (f n))) [valC (f' n)] cs) fz ex)) (m32 (pl (f n))), S.nx⟩) (Nat.beq (Nat.add (Nat.sub K.g (m32 (pl (f n)))) (Nat.add (Nat.sub fz (d32 (pl (f n)))) (Nat.sub (Nat.succ (d32 (pl (f n)))) (len cs)))) 0) : Option St) = some S2 := hs
            cases hq : Nat.beq (Nat.add (Nat.sub K.g (m32 (pl (f n)))) (Nat.add (Nat.sub fz (d32 (pl (f n)))) (Nat.sub (Nat.succ (d32 (pl (f n)))) (len cs)))) 0 with
            | false => rw [hq] at hs; cases hs
            | true =>
              rw [hq] at hs
              rw [Nat.beq_eq] at hq
              obtain ⟨q1, q2⟩ := add0 hq
              obtain ⟨q2, q3⟩ := add0 q2
              rw [hva] at hs
              have hs := Option.some.inj hs
              refine ⟨?_, by rw [← hs]⟩
              have b1 : Nat.ble K.g (m32 (pl (f n))) = true := bl (sub0 q1)
              have b2 : Nat.ble fz (d32 (pl (f n))) = true := bl (sub0 q2)
              have b3 : Nat.ble (d32 (pl (f n)) + len [a]) (len cs) = true := bl (sub0 q3)
              have b4 : allc [a] = true := by show (onec a && true) = true; rw [hone]; rfl
              have b5 : Nat.beq (len [a]) 1 = true := rfl
              simp only [awr, hp, hv, one1_ok h3, hcel, b5, cond_true, asto, hb, b1, b2, b3, b4, Bool.and_self, hs]
        have hnx := hst.2
        have ha0 : aop0 P K noIh S (evo K ⟨n, t⟩) o.op = .ok (.tp []) S2 := by
          rw [ho2]
          have z1 : apure P (evo K ⟨n, t⟩) (.store ty x y) = none := rfl
          have z2 : ard P S.lk (evo K ⟨n, t⟩) (.store ty x y) = none := rfl
          have z3 : aalloc P (evo K ⟨n, t⟩) (.store ty x y) = none := rfl
          have z4 : Nat.ble S.nx S2.nx = true := bl (by rw [hnx]; exact Nat.le_refl _)
          simp only [aop0, aquiet, z1, z2, z3, hst.1, z4, cond_true]
        refine opR_upd (opV_aop0 hK noIh_ok ha0) ?_
        rw [ho1]; rfl
/-! a part of a tuple -/
theorem fExt_ok (hK : KnownOk P K) {d : Tmp} {p : Option AV → T AV → T AV} {i : Nat} (hdst : dst = some d) (hd : d < nt) (hp : ∀ x U, p x U = U.put x d) (hx : OpdOk K x f g) : FastOk P K nt dst (.extract x i) (fExt d p f g i) := by
  intro m hm ih k n t S o1 e1 S1 hi h
  have h : (Bool.rec (m ih k n t S) (Option.rec (m ih k n t S) (fun a => k (pset n d (ccap (enc a))) (Bool.rec t (p (some a) t) (Nat.beq (ccap (enc a)) 1)) S) (tupN (g t) i)) (Nat.beq (f n) 1) : Fin) = .out o1 e1 S1 := h
  cases hc : Nat.beq (f n) 1 with
  | false => rw [hc] at h; exact hm ih k n t S o1 e1 S1 hi h
  | true =>
    rw [hc] at h
    rw [Nat.beq_eq] at hc
    cases ha : tupN (g t) i with
    | none => rw [ha] at h; exact hm ih k n t S o1 e1 S1 hi h
    | some a =>
      rw [ha] at h
      have h : k (pset n d (ccap (enc a))) (Bool.rec t (p (some a) t) (Nat.beq (ccap (enc a)) 1)) S = .out o1 e1 S1 := h
      refine ⟨pset n d (ccap (enc a)), tcap (ccap (enc a)) (some a) t d, S, by rw [← tcap_eq hp]; exact h, fun o ho1 ho2 => ?_⟩
      have hq : qext (evo K ⟨n, t⟩) x i = some a := by
        unfold qext
        rw [(hx n).2 t, hc, dec_one]; exact ha
      refine opR_upd (v := a) (opV_aop0 hK noIh_ok (by rw [ho2]; exact aop0_pure (qext_ok hq))) ?_
      rw [ho1, hdst]
      refine upd_place hd (ccap_lt _) fun y hy => ?_
      rcases dec_ccap a (some a) with h4 | h4
      · rw [h4, dec_one] at hy; exact (Option.some.inj hy).symm
      · rw [h4] at hy; exact (Option.some.inj hy).symm
/-! what is new -/
def isNew : Op → Bool
  | .alloc _ => true
  | .box _ _ => true
  | .buildSlice _ _ _ => true
  | .makeSlice _ _ _ => true
  | .makeMap _ _ => true
  | _ => false
theorem fNew_ok (hK : KnownOk P K) {d : Tmp} {p : Option AV → T AV → T AV} {op : Op} (hn : isNew op = true) (hdst : dst = some d) (hd : d < nt) (hp : ∀ x U, p x U = U.put x d) : FastOk P K nt dst op (fNew P K d p op) := by
  intro m hm ih k n t S o1 e1 S1 hi h
  have h : (Option.rec (.bad [12]) (fun q => Prod.rec (motive := fun _ => Fin) (fun b f => Bool.rec (.bad [13]) (k (pset n d (ccap (enc (f S.nx)))) (Bool.rec t (p (some (f S.nx)) t) (Nat.beq (ccap (enc (f S.nx))) 1)) ⟨S.h.put (some b) S.nx, Nat.succ S.nx⟩) (Nat.ble K.g S.nx)) q) (aalloc P (evo K ⟨n, t⟩) op) : Fin) = .out o1 e1 S1 := h
  cases ha : aalloc P (evo K ⟨n, t⟩) op with
  | none => rw [ha] at h; cases h
  | some q =>
    obtain ⟨b, fv⟩ := q
    rw [ha] at h
    have h : (Bool.rec (.bad [13]) (k (pset n d (ccap (enc (fv S.nx)))) (Bool.rec t (p (some (fv S.nx)) t) (Nat.beq (ccap (enc (fv S.nx))) 1)) ⟨S.h.put (some b) S.nx, Nat.succ S.nx⟩) (Nat.ble K.g S.nx) : Fin) = .out o1 e1 S1 := h
    cases hg : Nat.ble K.g S.nx with
    | false => rw [hg] at h; cases h
    | true =>
      rw [hg] at h
      refine ⟨pset n d (ccap (enc (fv S.nx))), tcap (ccap (enc (fv S.nx))) (some (fv S.nx)) t d, ⟨S.h.put (some b) S.nx, Nat.succ S.nx⟩, by rw [← tcap_eq hp]; exact h, fun o ho1 ho2 => ?_⟩
      have z1 : apure P (evo K ⟨n, t⟩) op = none := by cases op <;> first | rfl | cases hn
      have z2 : ard P S.lk (evo K ⟨n, t⟩) op = none := by cases op <;> first | rfl | cases hn
      have ha0 : aop0 P K noIh S (evo K ⟨n, t⟩) o.op = .ok (fv S.nx) ⟨S.h.put (some b) S.nx, Nat.succ S.nx⟩ := by
        rw [ho2]
        simp only [aop0, aquiet, z1, z2, ha, hg, cond_true]
      refine opR_upd (opV_aop0 hK noIh_ok ha0) ?_
      rw [ho1, hdst]
      refine upd_place hd (ccap_lt _) fun y hy => ?_
      rcases dec_ccap (fv S.nx) (some (fv S.nx)) with h4 | h4
      · rw [h4, dec_one] at hy; exact (Option.some.inj hy).symm
      · rw [h4] at hy; exact (Option.some.inj hy).symm
/-! all together -/
theorem fast_ok (hK : KnownOk P K) (ty : TypeId) (op : Op) : FastOk P K nt dst op (fast P K nt ty dst op) := by
  have ox : ∀ x, ∃ f g, ocB K x = .mk f ∧ bxB K nt x = .mk g ∧ OpdOk K x f g := fun x => oc_ok (K := K) x nt
  cases op with
  | move x =>
    obtain ⟨f, g, hf, hg, hx⟩ := ox x
    show FastOk P K nt dst _ (unB (ocB K x) fun f => unB (bxB K nt x) fun g => fMove P nt ty dst f g)
    rw [hf, hg]; exact fMove_ok (.inl rfl) hx
  | assign x =>
    obtain ⟨f, g, hf, hg, hx⟩ := ox x
    show FastOk P K nt dst _ (unB (ocB K x) fun f => unB (bxB K nt x) fun g => fMove P nt ty dst f g)
    rw [hf, hg]; exact fMove_ok (.inr rfl) hx
  | pick c a b =>
    obtain ⟨h, g0, hh, _, hz⟩ := ox c
    obtain ⟨f, g1, hf, _, hx⟩ := ox a
    obtain ⟨f', g2, hf', _, hy⟩ := ox b
    show FastOk P K nt dst _ (unB (ocB K c) fun h => unB (ocB K a) fun f => unB (ocB K b) fun g => fPick h f g)
    rw [hh, hf, hf']; exact fPick_ok hz hx hy
  | nilCheck x =>
    obtain ⟨f, g, hf, hg, hx⟩ := ox x
    show FastOk P K nt dst _ (unB (ocB K x) fun f => fNil f)
    rw [hf]; exact fNil_ok hx
  | binOp op t x y u =>
    obtain ⟨f, g, hf, hg, hx⟩ := ox x
    obtain ⟨f', g', hf', hg', hy⟩ := ox y
    have main : FastOk P K nt dst (.binOp op t x y u) (unB (ocB K x) fun f => unB (ocB K y) fun g => fBin op f g) := by
      rw [hf, hf']; exact fBin_ok op hx hy
    cases op with
    | eql => exact fEq_ok (.inl ⟨rfl, rfl⟩)
    | neq => exact fEq_ok (.inr ⟨rfl, rfl⟩)
    | _ => exact main
  | unOp op t x =>
    obtain ⟨f, g, hf, hg, hx⟩ := ox x
    cases op with
    | not =>
      show FastOk P K nt dst _ (unB (ocB K x) fun f => fNot f)
      rw [hf]; exact fNot_ok hx
    | _ => trivial
  | convert s d x =>
    obtain ⟨f, g, hf, hg, hx⟩ := ox x
    show FastOk P K nt dst _ (unB (ocB K x) fun f => fConv P s d f)
    rw [hf]; exact fConv_ok hx
  | fieldAddr s x i =>
    obtain ⟨f, g, hf, hg, hx⟩ := ox x
    show FastOk P K nt dst _ (unB (ocB K x) fun f => fFda P s f i)
    rw [hf]; exact fFda_ok hx
  | indexAddr t x i =>
    obtain ⟨f, g, hf, hg, hx⟩ := ox x
    obtain ⟨f', g', hf', hg', hy⟩ := ox i
    show FastOk P K nt dst _ (unB (ocB K x) fun f => unB (ocB K i) fun g => fIxa P t f g)
    rw [hf, hf']; exact fIxa_ok hx hy
  | index t x i =>
    obtain ⟨f, g, hf, hg, hx⟩ := ox x
    obtain ⟨f', g', hf', hg', hy⟩ := ox i
    show FastOk P K nt dst _ (unB (ocB K x) fun f => unB (bxB K nt x) fun g => unB (ocB K i) fun h => fIdxS P t f g h)
    rw [hf, hg, hf']; exact fIdxS_ok hx hy
  | load t x =>
    obtain ⟨f, g, hf, hg, hx⟩ := ox x
    show FastOk P K nt dst _ (unB (ocB K x) fun f => fLoad P t f)
    rw [hf]; exact fLoad_ok hx
  | store t x v =>
    obtain ⟨f, g, hf, hg, hx⟩ := ox x
    obtain ⟨f', g', hf', hg', hy⟩ := ox v
    cases dst with
    | some d => trivial
    | none =>
      show FastOk P K nt none _ (unB (ocB K x) fun f => unB (ocB K v) fun f' => fStore P K t f f')
      rw [hf, hf']; exact fStore_ok hK hx hy
  | extract x i =>
    obtain ⟨f, g, hf, hg, hx⟩ := ox x
    show FastOk P K nt dst _ (unB (ocB K x) fun f => unB (bxB K nt x) fun g => inD nt dst fun d p => fExt d p f g i)
    rw [hf, hg]; exact inD_ok fun d p hd hn hp => fExt_ok hK hd hn hp hx
  | alloc t => exact inD_ok fun d p hd hn hp => fNew_ok hK rfl hd hn hp
  | box t x => exact inD_ok fun d p hd hn hp => fNew_ok hK rfl hd hn hp
  | buildSlice t n l => exact inD_ok fun d p hd hn hp => fNew_ok hK rfl hd hn hp
  | makeSlice t x y => exact inD_ok fun d p hd hn hp => fNew_ok hK rfl hd hn hp
  | makeMap t x => exact inD_ok fun d p hd hn hp => fNew_ok hK rfl hd hn hp
  | call c =>
    unfold fast
    simp only
    split
    · rename_i hcal
      split
      · rename_i x t hargs htys
        obtain ⟨f, g, hf, hg, hx⟩ := ox x
        rw [hf]
        show FastOk P K nt dst _ (match und P t with
          | some .string => unB (bxB K nt x) fun g => fLenS P t f g
          | _ => fLen P t f)
        split
        · rw [hg]; exact fLenS_ok hcal hargs htys hx
        · exact fLen_ok hcal hargs htys hx
      · trivial
    · trivial
  | _ => trivial
theorem quick_ok (hK : KnownOk P K) {d : Tmp} {op : Op} {v r : Nat → T AV → St → Nat} {m : H → G → G} (hdst : dst = some d) (hd : d < nt) (hf : FastOk P K nt dst op (.yes v r)) (hm : Cop1Ok P K nt dst op m) : Cop1Ok P K nt dst op (quick d v r m) := by
  intro ih k n t S o1 e1 S1 hi h
  have h : (Bool.rec (m ih k n t S) (k (pset n d (r n t S)) t S) (Nat.beq (v n t S) 0) : Fin) = .out o1 e1 S1 := h
  cases hc : Nat.beq (v n t S) 0 with
  | false => rw [hc] at h; exact hm ih k n t S o1 e1 S1 hi h
  | true =>
    rw [hc] at h
    rw [Nat.beq_eq] at hc
    obtain ⟨h1, a, h2, h3⟩ := hf n t S hc
    refine ⟨_, _, S, h, fun o ho1 ho2 => ?_⟩
    refine opR_upd (opV_aop0 hK noIh_ok (by rw [ho2]; exact h3 noIh)) ?_
    rw [ho1, hdst]
    exact upd_code hd h1 h2
theorem cop1_ok (hK : KnownOk P K) (nt : Nat) (ty : TypeId) (dst : Option Tmp) (op : Op) : ∃ q, cop1 P K nt ty dst op = .mk q ∧ Cop1Ok P K nt dst op q := by
  have hf := fast_ok (P := P) (nt := nt) (dst := dst) hK ty op
  have hm := mid_ok hK nt dst op
  unfold cop1
  split
  · rename_i v r he
    rw [he] at hf
    cases dst with
    | none => exact ⟨_, rfl, hm⟩
    | some d =>
      simp only
      rw [cnd_eq]
      split
      · rename_i hd
        rw [blt_iff] at hd
        exact ⟨_, rfl, quick_ok hK rfl hd hf hm⟩
      · exact ⟨_, rfl, hm⟩
  · rename_i q he
    rw [he] at hf
    exact ⟨_, rfl, hf _ hm⟩
  · split
    · rename_i c hno
      split
      · rename_i w hw
        split
        · rename_i fn
          refine fcall_ok hK nt dst ⟨c.argTypes, ?_⟩ (gcall_ok hK nt dst _)
          obtain ⟨ce, args, tys⟩ := c
          simp only at hw; subst hw
          simp
        · exact ⟨_, rfl, gcall_ok hK nt dst _⟩
      · exact ⟨_, rfl, hm⟩
    · exact ⟨_, rfl, hm⟩
theorem awant_guard {all : List Oper} {env : Env} {o : Oper} {j : Nat} {w : Bool} {g : Tmp} {b : Bool} (ho : o.guard = some (j, w)) (hg : gtmp all j = some g) (he : eget env g = some (.b b)) : awant all env o = some (b == w) := by
  unfold awant
  rw [ho]
  show awant1 all env j w = _
  unfold awant1
  unfold gtmp at hg
  split at hg
  · rename_i oj hj
    simp only [hj, hg, he]
  · cases hg
theorem skip_ok {all : List Oper} {o : Oper} {n : Nat} {t : T AV} {S : St} {d : Tmp} (hdst : o.dst = some d) (hd : d < nt) (hw : awant all ⟨n, t⟩ o = some false) : StepR P K nt all o ⟨n, t⟩ S ⟨pset n d 1, t.put (some (.tp [])) d⟩ S := by
  refine .inr ⟨hw, rfl, fun m a hE hn => ?_⟩
  rw [hdst]
  exact env_place (c := 1) (x := some (.tp [])) (u := undef) hE hn hd (by decide) fun y hy => by
    rw [dec_one] at hy
    obtain rfl := Option.some.inj hy
    exact undef_ok m
theorem skp_ok {all : List Oper} {o : Oper} {ih : H} {k : G} {n : Nat} {t : T AV} {S : St} {o1 : Out} {e1 : Env} {S1 : St} (hw : awant all ⟨n, t⟩ o = some false) (h : skp nt o.dst ih k n t S = .out o1 e1 S1) : ∃ n' t' S', k n' t' S' = .out o1 e1 S1 ∧ StepR P K nt all o ⟨n, t⟩ S ⟨n', t'⟩ S' := by
  cases hd : o.dst with
  | some d =>
    rw [hd] at h
    have h : (cnd (Nat.blt d nt) (unB (pP (dep nt) d) fun p => fun _ k n t S => k (pset n d 1) (p (some (.tp [])) t) S) (fun _ _ _ _ _ => .bad [14]) : H → G → G) ih k n t S = .out o1 e1 S1 := h
    rw [cnd_eq] at h
    split at h
    · rename_i hb
      rw [blt_iff] at hb
      obtain ⟨p, hp, hp'⟩ := pP_ok (dep nt) d
      rw [hp] at h
      have h : k (pset n d 1) (p (some (.tp [])) t) S = .out o1 e1 S1 := h
      rw [hp'] at h
      exact ⟨_, _, S, h, skip_ok hd hb hw⟩
    · cases h
  | none =>
    rw [hd] at h
    refine ⟨n, t, S, h, .inr ⟨hw, rfl, fun m a hE hn => ?_⟩⟩
    rw [hd]; exact ⟨hE, hn⟩
theorem gd_ok {all : List Oper} {o : Oper} {q : H → G → G} (hq : Cop1Ok P K nt o.dst o.op q) : CopOk P K nt all o (gd P K nt all o q) := by
  intro ih k n t S o1 e1 S1 hi h
  unfold gd at h
  cases hw : awant all ⟨n, t⟩ o with
  | none => rw [hw] at h; cases h
  | some b =>
    rw [hw] at h
    cases b with
    | true =>
      obtain ⟨n', t', S', h1, h2⟩ := hq ih k n t S o1 e1 S1 hi h
      exact ⟨n', t', S', h1, .inl ⟨hw, h2 o rfl rfl⟩⟩
    | false =>
      have h : aft (aput nt ⟨n, t⟩ o.dst (.tp [])) k S = .out o1 e1 S1 := h
      obtain ⟨n', t', h1, h2⟩ := aft_out h
      exact ⟨n', t', S, h2, .inr ⟨hw, rfl, fun m a hE hn => upd_ok (aput_upd h1) hE hn (undef_ok m)⟩⟩
theorem slot34 {n g : Nat} {t : T AV} (h : slot n g = 34) : eget ⟨n, t⟩ g = some (.b true) := by unfold eget; simp only; rw [h]; rfl
theorem slot2 {n g : Nat} {t : T AV} (h : slot n g = 2) : eget ⟨n, t⟩ g = some (.b false) := by unfold eget; simp only; rw [h]; rfl
theorem cop_ok (hK : KnownOk P K) (nt : Nat) (all : List Oper) (o : Oper) : ∃ q, cop P K nt all o = .mk q ∧ CopOk P K nt all o q := by
  obtain ⟨q, hq, hq'⟩ := cop1_ok hK nt o.type o.dst o.op
  unfold cop
  split
  · rename_i hg
    refine ⟨q, hq, fun ih k n t S o1 e1 S1 hi h => ?_⟩
    obtain ⟨n', t', S', h1, h2⟩ := hq' ih k n t S o1 e1 S1 hi h
    exact ⟨n', t', S', h1, .inl ⟨by unfold awant; rw [hg], h2 o rfl rfl⟩⟩
  · rename_i j w hg
    rw [hq]
    show ∃ q', (match gtmp all j with
      | some g => Box.mk (gdq g (cnd w 34 2) (cnd w 2 34) q (skp nt o.dst) (gd P K nt all o q))
      | none => .mk (gd P K nt all o q)) = Box.mk q' ∧ CopOk P K nt all o q'
    split
    · rename_i g hgt
      refine ⟨_, rfl, fun ih k n t S o1 e1 S1 hi h => ?_⟩
      have h : (Bool.rec (Bool.rec (gd P K nt all o q ih k n t S) (skp nt o.dst ih k n t S) (Nat.beq (slot n g) (cnd w 2 34))) (q ih k n t S) (Nat.beq (slot n g) (cnd w 34 2)) : Fin) = .out o1 e1 S1 := h
      cases h1 : Nat.beq (slot n g) (cnd w 34 2) with
      | true =>
        rw [h1] at h
        rw [Nat.beq_eq] at h1
        have hw : awant all ⟨n, t⟩ o = some true := by
          cases w with
          | true => exact awant_guard hg hgt (slot34 h1)
          | false => exact awant_guard hg hgt (slot2 h1)
        obtain ⟨n', t', S', h2, h3⟩ := hq' ih k n t S o1 e1 S1 hi h
        exact ⟨n', t', S', h2, .inl ⟨hw, h3 o rfl rfl⟩⟩
      | false =>
        rw [h1] at h
        cases h2 : Nat.beq (slot n g) (cnd w 2 34) with
        | true =>
          rw [h2] at h
          rw [Nat.beq_eq] at h2
          have hw : awant all ⟨n, t⟩ o = some false := by
            cases w with
            | true => exact awant_guard hg hgt (slot2 h2)
            | false => exact awant_guard hg hgt (slot34 h2)
          exact skp_ok hw h
        | false =>
          rw [h2] at h
          exact gd_ok hq' ih k n t S o1 e1 S1 hi h
    · exact ⟨_, rfl, gd_ok hq'⟩
/-- a run is sound -/
theorem run_ok (hK : KnownOk P K) (fuel : Nat) {S : St} {f : FuncId} {as : List AV} {kv : AV → St → Fin} {o1 : Out} {e1 : Env} {S1 : St} (h : crun P K (hN P K (adraw P K) fuel) S f as kv = .out o1 e1 S1) :
    ∃ v S', kv v S' = .out o1 e1 S1 ∧ S.nx ≤ S'.nx ∧ ∀ m w args, R S.lk m w → Fre m S.nx S'.nx → Gl K m → cvs m as = some args →
      ((∀ args w, (callFunc f args).run P w = .ok (.enter f args) w) ∧ Calls P f args.toArray w (Got K m S w S' v)) ∨ (∃ m' w' u, (callFunc f args.toArray).run P w = .ok (.value u) w' ∧ cvo m' v = some u ∧ Step K.g m S.lk S.nx w m' S'.lk S'.nx w') :=
  crun_ok hK (hN_ok hK (adraw_ok hK) (fun nt all o => cop_ok hK nt all o) fuel) h
end
end Am
