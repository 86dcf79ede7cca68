/- A machine for closed runs: what else is quick is sound. No program in sight. -/
import Derived.Test.YtbeageacgalhiaaGreatDoorAmCd
set_option linter.unusedVariables false
set_option linter.unusedSimpArgs false
namespace Am
open Go
noncomputable section
variable {P : Program} {K : Known} {nt : Nat} {dst : Option Tmp} {x y z : Operand} {f f' h' : Nat → Nat} {g g' : T AV → Option AV}

theorem tag22 {Q : Nat → Prop} {t : Nat} (h1 : 2 ≤ t) (h2 : t ≤ 23) (h : ∀ k, k < 22 → Q (2 + k)) : Q t := by
  have := h (t - 2) (by omega)
  rwa [show 2 + (t - 2) = t by omega] at this
theorem vUn_dec {c : Nat} (h : vUn c = 0) : c ≠ 1 ∧ ∃ a, ∀ bx, dec c bx = some a := by
  obtain ⟨h1, h2⟩ := add0 h
  have h1 : 2 ≤ c % 32 := sub0 h1
  have h2 : c % 32 ≤ 23 := sub0 h2
  refine ⟨by omega, ?_⟩
  have key : ∃ a, ∀ bx, decG (c % 32) (c / 32) bx = some a := by
    generalize c / 32 = p
    generalize c % 32 = t at h1 h2
    have : t = 2 ∨ t = 3 ∨ t = 4 ∨ t = 5 ∨ t = 6 ∨ t = 7 ∨ t = 8 ∨ t = 9 ∨ t = 10 ∨ t = 11 ∨ t = 12 ∨ t = 13 ∨ t = 14 ∨ t = 15 ∨ t = 16 ∨ t = 17 ∨ t = 18 ∨ t = 19 ∨ t = 20 ∨ t = 21 ∨ t = 22 ∨ t = 23 := by omega
    rcases this with rfl | rfl | rfl | rfl | rfl | rfl | rfl | rfl | rfl | rfl | rfl | rfl | rfl | rfl | rfl | rfl | rfl | rfl | rfl | rfl | rfl | rfl <;> exact ⟨_, fun bx => rfl⟩
  exact key
theorem vB_two {c : Nat} (h : vB c = 0) : c = 2 ∨ c = 34 := by
  obtain ⟨h1, h2⟩ := add0 h
  have h1 : c % 32 = 2 := xor_zero h1
  have h2 : c / 32 ≤ 1 := sub0 h2
  omega
theorem b_op (h : OpdOk K x f g) {n : Nat} {t : T AV} (hv : f n = 2 ∨ f n = 34) : evo K ⟨n, t⟩ x = some (.b (Nat.beq (f n) 34)) := by
  rw [(h n).2 t]
  rcases hv with e | e <;> rw [e] <;> rfl
theorem fPick_ok (hz : OpdOk K z h' g) {g1 g2 : T AV → Option AV} (hx : OpdOk K x f g1) (hy : OpdOk K y f' g2) : FastOk P K nt dst (.pick z x y) (fPick h' f f') := by
  intro n t S h
  obtain ⟨h1, h2⟩ := add0 h
  have hb := b_op hz (t := t) (vB_two h1)
  have main : ∀ (w : Operand) (fw : Nat → Nat) (gw : T AV → Option AV), OpdOk K w fw gw → vUn (fw n) = 0 → apure P (evo K ⟨n, t⟩) (.pick z x y) = evo K ⟨n, t⟩ w → fw n < 2 ^ 192 ∧ ∃ a, (∀ bx, dec (fw n) bx = some a) ∧ ∀ ih, aop0 P K ih S (evo K ⟨n, t⟩) (.pick z x y) = .ok a S := by
    intro w fw gw hw hv he
    obtain ⟨_, a, ha⟩ := vUn_dec hv
    refine ⟨(hw n).1, a, ha, fun ih => aop0_pure ?_⟩
    rw [he, (hw n).2 t, ha]
  cases hc : Nat.beq (h' n) 34 with
  | true =>
    rw [hc] at h2 hb
    have e : (Bool.rec (f' n) (f n) (Nat.beq (h' n) 34) : Nat) = f n := by rw [hc]
    show (Bool.rec (f' n) (f n) (Nat.beq (h' n) 34) : Nat) < 2 ^ 192 ∧ ∃ a, (∀ bx, dec (Bool.rec (f' n) (f n) (Nat.beq (h' n) 34) : Nat) bx = some a) ∧ _
    rw [e]
    exact main x f g1 hx h2 (by simp only [apure, hb, cond_true])
  | false =>
    rw [hc] at h2 hb
    have e : (Bool.rec (f' n) (f n) (Nat.beq (h' n) 34) : Nat) = f' n := by rw [hc]
    show (Bool.rec (f' n) (f n) (Nat.beq (h' n) 34) : Nat) < 2 ^ 192 ∧ ∃ a, (∀ bx, dec (Bool.rec (f' n) (f n) (Nat.beq (h' n) 34) : Nat) bx = some a) ∧ _
    rw [e]
    exact main y f' g2 hy h2 (by simp only [apure, hb, cond_false])
theorem fNot_ok {ty : TypeId} (hx : OpdOk K x f g) : FastOk P K nt dst (.unOp .not ty x) (fNot f) := by
  intro n t S h
  have hv := vB_two h
  have hb := b_op hx (t := t) hv
  show Nat.sub 36 (f n) < 2 ^ 192 ∧ ∃ a, (∀ bx, dec (Nat.sub 36 (f n)) bx = some a) ∧ _
  rcases hv with e | e <;> rw [e] at hb ⊢
  · exact ⟨by decide, .b true, fun bx => rfl, fun ih => aop0_pure (by simp only [apure, hb]; rfl)⟩
  · exact ⟨by decide, .b false, fun bx => rfl, fun ih => aop0_pure (by simp only [apure, hb]; rfl)⟩
theorem dec_p {c : Nat} (h : vP c = 0) (bx : Option AV) : dec c bx = some (.p (m32 (pl c)) (d32 (pl c))) := by
  have h : c % 32 = 3 := xor_zero h
  show decG (c % 32) (c / 32) bx = _
  rw [h]; rfl
theorem p_op (h : OpdOk K x f g) {n : Nat} {t : T AV} (hv : vP (f n) = 0) : evo K ⟨n, t⟩ x = some (.p (m32 (pl (f n))) (d32 (pl (f n)))) := by
  rw [(h n).2 t]; exact dec_p hv _
theorem fNil_ok (hx : OpdOk K x f g) : FastOk P K nt dst (.nilCheck x) (fNil f) := by
  intro n t S h
  have hb := p_op hx (t := t) h
  exact ⟨(hx n).1, _, fun bx => dec_p h bx, fun ih => aop0_pure (by simp only [apure, hb])⟩
/-! slices -/
theorem d69 (c : Nat) : Nat.mod (Nat.shiftRight c 69) 4294967296 = m32 (d32 (d32 (pl c))) := by
  show (c >>> 69) % 4294967296 = (c / 32 / 4294967296 / 4294967296) % 4294967296
  rw [Nat.shiftRight_eq_div_pow, Nat.div_div_eq_div_mul, Nat.div_div_eq_div_mul]
theorem d101 (c : Nat) : Nat.mod (Nat.shiftRight c 101) 65536 = Nat.mod (d32 (d32 (d32 (pl c)))) 65536 := by
  show (c >>> 101) % 65536 = (c / 32 / 4294967296 / 4294967296 / 4294967296) % 65536
  rw [Nat.shiftRight_eq_div_pow, Nat.div_div_eq_div_mul, Nat.div_div_eq_div_mul, Nat.div_div_eq_div_mul]
theorem isSl_ok {t : TypeId} (h : isSl P t = 0) : ∃ e, und P t = some (.slice e) := by
  unfold isSl at h
  split at h
  · rename_i e he; exact ⟨e, he⟩
  · cases h
theorem lt_m32 (x : Nat) : m32 x < 4294967296 := Nat.mod_lt _ (by decide)
theorem amap_one {ρ : Rho} {x : Operand} {a : AV} (h : ρ x = some a) : amap ρ [x] = some [a] := by show obl (ρ x) (some []) = some [a]; rw [h]; rfl
theorem fLen_ok {c : Call} {ty : TypeId} (hcal : c.callee = .builtin .len) (hargs : c.args.toList = [x]) (htys : c.argTypes.toList = [ty]) (hx : OpdOk K x f g) : FastOk P K nt dst (.call c) (fLen P ty f) := by
  intro n t S h
  obtain ⟨h1, h2⟩ := add0 h
  obtain ⟨h2, h3⟩ := add0 h2
  obtain ⟨e, he⟩ := isSl_ok h1
  have h2 : 17 ≤ f n % 32 := sub0 h2
  have h3 : f n % 32 ≤ 19 := sub0 h3
  have main : ∀ a k, evo K ⟨n, t⟩ x = some a → alen P ty a = some (.i .i64 (.ofNat k)) → k < 4294967296 → lenC (f n) = tagd 7 k → lenC (f n) < 2 ^ 192 ∧ ∃ a, (∀ bx, dec (lenC (f n)) bx = some a) ∧ ∀ ih, aop0 P K ih S (evo K ⟨n, t⟩) (.call c) = .ok a S := by
    intro a k ha hk hlt hr
    rw [hr]
    refine ⟨tagd_lt (by decide) (by omega), .i .i64 (.ofNat k), fun bx => dec_tagI (g := 7) (by decide) (by decide) bx, fun ih => aop0_pure ?_⟩
    simp only [apure, hcal, hargs, htys, amap_one ha, abul, hk]
  have hev := (hx n).2 t
  have hl : lenC (f n) = tagd 7 (m32 (d32 (d32 (pl (f n)))) * (1 - (1 - (f n % 32 - 17)))) := by unfold lenC; rw [d69]; rfl
  have hg : f n % 32 = 17 ∨ f n % 32 = 18 ∨ f n % 32 = 19 := by omega
  have hd : dec (f n) (g t) = decG (f n % 32) (f n / 32) (g t) := rfl
  rcases hg with hg | hg | hg
  · rw [hd, hg] at hev
    refine main .nsl 0 hev (by unfold alen; rw [he]) (by decide) (by rw [hl, hg]; rfl)
  · rw [hd, hg] at hev
    refine main _ (m32 (d32 (d32 (pl (f n))))) hev (by unfold alen; rw [he]; rfl) (lt_m32 _) (by rw [hl, hg]; exact congrArg (tagd 7) (Nat.mul_one _))
  · rw [hd, hg] at hev
    refine main _ (m32 (d32 (d32 (pl (f n))))) hev (by unfold alen; rw [he]; rfl) (lt_m32 _) (by rw [hl, hg]; exact congrArg (tagd 7) (Nat.mul_one _))
theorem div_big {r : Nat} (h : Nat.div r big = 0) : r < 2 ^ 192 := by
  have h : r / 6277101735386680763835789423207666416102355444464034512896 = 0 := h
  have : (2 : Nat) ^ 192 = 6277101735386680763835789423207666416102355444464034512896 := by decide
  omega
theorem fFda_ok {s : TypeId} {i : Nat} (hx : OpdOk K x f g) : FastOk P K nt dst (.fieldAddr s x i) (fFda P s f i) := by
  intro n t S h
  obtain ⟨h1, h2⟩ := add0 h
  obtain ⟨h2, h3⟩ := add0 h2
  have h2 : 1 ≤ fdo P s i := sub0 h2
  have hp := p_op hx (t := t) h1
  have h5 : f n % 32 = 3 := xor_zero h1
  refine ⟨div_big h3, .p (m32 (pl (f n))) (Nat.add (d32 (pl (f n))) (Nat.pred (fdo P s i))), fun bx => ?_, fun ih => aop0_pure ?_⟩
  · have e : fdaC (f n) (Nat.pred (fdo P s i)) = tagd 3 (Nat.add (pl (f n)) (Nat.mul 4294967296 (Nat.pred (fdo P s i)))) := by
      show f n + (Nat.pred (fdo P s i)) <<< 37 = 32 * (f n / 32 + 4294967296 * Nat.pred (fdo P s i)) + 3
      rw [Nat.shiftLeft_eq]
      have : (2 : Nat) ^ 37 = 137438953472 := by decide
      omega
    show dec (fdaC (f n) (Nat.pred (fdo P s i))) bx = _
    rw [e, dec_tagd (by decide)]
    show some (AV.p (m32 (Nat.add (pl (f n)) (Nat.mul 4294967296 (Nat.pred (fdo P s i))))) (d32 (Nat.add (pl (f n)) (Nat.mul 4294967296 (Nat.pred (fdo P s i)))))) = _
    have e1 : m32 (Nat.add (pl (f n)) (Nat.mul 4294967296 (Nat.pred (fdo P s i)))) = m32 (pl (f n)) := by show (_ + 4294967296 * _) % 4294967296 = _ % 4294967296; omega
    have e2 : d32 (Nat.add (pl (f n)) (Nat.mul 4294967296 (Nat.pred (fdo P s i)))) = Nat.add (d32 (pl (f n))) (Nat.pred (fdo P s i)) := by show (_ + 4294967296 * _) / 4294967296 = _ / 4294967296 + _; omega
    rw [e1, e2]
  · simp only [apure, hp]
    unfold fdo at h2 ⊢
    unfold afda
    split at h2
    · rename_i fs hs
      rw [hs]
      simp only
      split at h2
      · rename_i fd hfd
        rw [hfd]
        simp only
        split at h2
        · rename_i k hk
          rw [hk]
          simp only
          cases hb : Nat.beq k 0 with
          | true => rw [hb] at h2; cases h2
          | false => rfl
        · cases h2
      · cases h2
    · cases h2
theorem ixs_ok {t : TypeId} {s : Nat} (h : ixs P t = s) (h0 : 1 ≤ s) : ∃ e, und P t = some (.slice e) ∧ szo P e = some (Nat.pred s) := by
  unfold ixs at h
  split at h
  · rename_i e he
    split at h
    · rename_i k hk
      exact ⟨e, he, by rw [← h]; exact hk⟩
    · omega
  · omega
theorem fIxa_ok {ty : TypeId} (hx : OpdOk K x f g) (hy : OpdOk K y f' g') : FastOk P K nt dst (.indexAddr ty x y) (fIxa P ty f f') := by
  intro n t S h
  obtain ⟨h1, hbig⟩ := add0 h
  obtain ⟨h1, h2⟩ := add0 h1
  obtain ⟨h3, h4⟩ := add0 h1
  obtain ⟨h2, h5⟩ := add0 h2
  obtain ⟨h2, h6⟩ := add0 h2
  obtain ⟨h5, h7⟩ := add0 h5
  obtain ⟨h5, h8⟩ := add0 h5
  have h3 : 18 ≤ f n % 32 := sub0 h3
  have h4 : f n % 32 ≤ 19 := sub0 h4
  have h5 : 1 ≤ ixs P ty := sub0 h5
  have h7 := sub0 h7
  have h8 := sub0 h8
  have h6 := sub0 h6
  rw [d69] at h6
  obtain ⟨e, he, hs⟩ := ixs_ok rfl h5
  have heC : eC (f n) = Nat.mod (d32 (d32 (d32 (pl (f n))))) 65536 := d101 _
  have hse : Nat.pred (ixs P ty) = eC (f n) := by
    have h7 : eC (f n) + 1 ≤ ixs P ty := h7
    have h8 : ixs P ty ≤ eC (f n) + 1 := h8
    show ixs P ty - 1 = _
    omega
  have hi := int_op hy (t := t) h2
  obtain ⟨cap, hev⟩ : ∃ cap, evo K ⟨n, t⟩ x = some (.sl (m32 (pl (f n))) (m32 (d32 (pl (f n)))) (m32 (d32 (d32 (pl (f n))))) cap (eC (f n)) (m32 (Nat.div (d32 (d32 (d32 (pl (f n))))) 65536))) := by
    have hev := (hx n).2 t
    have hd : dec (f n) (g t) = decG (f n % 32) (f n / 32) (g t) := rfl
    rw [heC]
    have hg : f n % 32 = 18 ∨ f n % 32 = 19 := by omega
    rcases hg with hg | hg <;> rw [hd, hg] at hev
    · exact ⟨_, hev⟩
    · exact ⟨_, hev⟩
  refine ⟨div_big hbig, .p (m32 (pl (f n))) (Nat.add (m32 (d32 (pl (f n)))) (Nat.mul (pl (f' n)) (eC (f n)))), fun bx => ?_, fun ih => aop0_pure (qixa_ok ?_)⟩
  · show dec (ixaC (f n) (pl (f' n))) bx = _
    unfold ixaC
    rw [dec_tagd (by decide)]
    show some (AV.p (m32 (p32 _ _)) (d32 (p32 _ _))) = _
    have hz : d32 (m32 (pl (f n))) = 0 := by show (_ % 4294967296) / 4294967296 = 0; omega
    rw [m32_p32 hz, d32_p32 hz]
  · unfold qixa
    rw [hev]
    show ob (qbd (evo K ⟨n, t⟩) y) (fun k => aixa P ty _ k) = _
    have hq : qbd (evo K ⟨n, t⟩) y = some (f' n / 32) := by unfold qbd; rw [hi]; rfl
    rw [hq]
    show aixa P ty _ (f' n / 32) = _
    unfold aixa
    rw [he]
    simp only [hs]
    have hlt : Nat.blt (f' n / 32) (m32 (d32 (d32 (pl (f n))))) = true := by rw [blt_iff]; exact h6
    rw [hse, bq rfl, hlt]; rfl
/-! a load -/
theorem oneCell_ok {t : TypeId} (h : oneCell P t = 0) : ∃ d k, und P t = some d ∧ szo P t = some k ∧ isA d = false := by
  unfold oneCell at h
  split at h
  · rename_i d k hd hk
    refine ⟨d, k, hd, hk, ?_⟩
    cases hA : isA d with
    | true => rw [hA] at h; cases h
    | false => rfl
  · cases h
theorem ldC_ok {S : St} {i o : Nat} (h : ldC S i o ≠ 0) : ∃ t cs fz ex a, S.h.get i = some (.cells t cs fz ex) ∧ nth cs o = some a ∧ ldC S i o = enc a := by
  unfold ldC at h ⊢
  cases hb : S.h.get i with
  | none => rw [hb] at h; exact absurd rfl h
  | some b =>
    rw [hb] at h
    cases b with
    | cells t cs fz ex =>
      have h : (Option.rec 0 (fun a => enc a) (nth cs o) : Nat) ≠ 0 := h
      cases ha : nth cs o with
      | none => rw [ha] at h; exact absurd rfl h
      | some a => exact ⟨t, cs, fz, ex, a, rfl, ha, by show (Option.rec 0 (fun a => enc a) (nth cs o) : Nat) = _; rw [ha]⟩
    | map _ _ => exact absurd rfl h
    | it _ _ _ => exact absurd rfl h
theorem fLoad_ok {ty : TypeId} (hx : OpdOk K x f g) : FastOk P K nt dst (.load ty x) (fLoad P ty f) := by
  intro n t S h
  obtain ⟨h1, h2⟩ := add0 h
  obtain ⟨h1, h3⟩ := add0 h1
  obtain ⟨h2, h4⟩ := add0 h2
  have hp := p_op hx (t := t) h1
  obtain ⟨d, k, hd, hk, hA⟩ := oneCell_ok h3
  obtain ⟨hne, _⟩ := vUn_dec h2
  have hn0 : ldC S (m32 (pl (f n))) (d32 (pl (f n))) ≠ 0 := by
    intro h0
    rw [h0] at h2; cases h2
  obtain ⟨t', cs, fz, ex, a, hb, ha, he⟩ := ldC_ok hn0
  refine ⟨div_big h4, a, fun bx => ?_, fun ih => ?_⟩
  · show dec (ldC S _ _) bx = _
    rw [he] at hne ⊢
    rcases dec_enc a bx with h5 | h5
    · exact absurd h5 hne
    · exact h5
  · have e0 : apure P (evo K ⟨n, t⟩) (.load ty x) = none := rfl
    have e1 : ard P S.lk (evo K ⟨n, t⟩) (.load ty x) = some a := by
      have hlk : S.lk (m32 (pl (f n))) = some (.cells t' cs fz ex) := hb
      simp only [ard, aload, hp, hlk, ald, hd, hk, hA, cond_false, ha]
    simp only [aop0, aquiet, e0, e1]
theorem kof_kidx (k : IntKind) : kof (Nat.add 4 (kidx k)) = k := by cases k <;> rfl
theorem fConv_ok {s d : TypeId} (hx : OpdOk K x f g) : FastOk P K nt dst (.convert s d x) (fConv P s d f) := by
  intro n t S h
  obtain ⟨h1, h2⟩ := add0 h
  obtain ⟨h2, h3⟩ := add0 h2
  have h2 : 1 ≤ cvk P s d := sub0 h2
  have hi := int_op hx (t := t) h1
  obtain ⟨u, k, hs, hd, hk⟩ : ∃ u k, und P s = some u ∧ und P d = some (.int k) ∧ cvk P s d = Nat.add 4 (kidx k) := by
    unfold cvk at h2 ⊢
    split at h2
    · rename_i u k hs hd
      exact ⟨u, k, hs, hd, rfl⟩
    · cases h2
  have hg : 4 ≤ Nat.add 4 (kidx k) ∧ Nat.add 4 (kidx k) ≤ 11 := by cases k <;> decide
  rw [hk] at h3
  show tagd (cvk P s d) (pl (f n)) < 2 ^ 192 ∧ ∃ a, (∀ bx, dec (tagd (cvk P s d) (pl (f n))) bx = some a) ∧ _
  rw [hk]
  refine ⟨tagd_lt (by omega) (lt64 hg.1 hg.2 h3), _, fun bx => dec_tagI hg.1 hg.2 bx, fun ih => aop0_pure ?_⟩
  have hl : pl (f n) < klim k := by have := lim_lt hg.1 hg.2 h3; rwa [kof_kidx] at this
  simp only [apure, hi, acv, hs, hd]
  rw [kof_kidx]
  show some (AV.i k (iwrap k (.ofNat (pl (f n))))) = _
  rw [← small_eq, small_lt hl]
/-! texts -/
theorem isSt_ok {t : TypeId} (h : isSt P t = 0) : und P t = some .string := by
  unfold isSt at h
  split at h
  · assumption
  · cases h
theorem avS_ok {v : AV} {q : Nat → Nat → Nat} (h : avS v q ≠ 0) : ∃ n x, v = .s n x ∧ avS v q = q n x := by
  cases v <;> first | exact ⟨_, _, rfl, rfl⟩ | exact absurd rfl h
theorem box_op (h : OpdOk K x f g) {n : Nat} {t : T AV} (hv : Nat.xor (f n) 1 = 0) : evo K ⟨n, t⟩ x = g t := by
  rw [(h n).2 t, xor_zero hv]; exact dec_one _
theorem strL_ok {v : Option AV} (h : 1 ≤ strL v) : ∃ n x, v = some (.s n x) ∧ strL v = n + 1 := by
  cases v with
  | none => cases h
  | some v =>
    have h : 1 ≤ avS v fun n _ => Nat.succ n := h
    obtain ⟨n, x, rfl, he⟩ := avS_ok (v := v) (q := fun n _ => Nat.succ n) (by omega)
    exact ⟨n, x, rfl, rfl⟩
theorem fLenS_ok {c : Call} {ty : TypeId} (hcal : c.callee = .builtin .len) (hargs : c.args.toList = [x]) (htys : c.argTypes.toList = [ty]) (hx : OpdOk K x f g) : FastOk P K nt dst (.call c) (fLenS P ty f g) := by
  intro n t S h
  obtain ⟨h1, h2⟩ := add0 h
  obtain ⟨h2, h3⟩ := add0 h2
  obtain ⟨h3, h4⟩ := add0 h3
  have hs := isSt_ok h1
  obtain ⟨k, u, hv, hk⟩ := strL_ok (sub0 h3)
  have h4 : strL (g t) / 18446744073709551616 = 0 := h4
  have ha : evo K ⟨n, t⟩ x = some (.s k u) := by rw [box_op hx h2, hv]
  show tagd 7 (Nat.pred (strL (g t))) < 2 ^ 192 ∧ ∃ a, (∀ bx, dec (tagd 7 (Nat.pred (strL (g t)))) bx = some a) ∧ _
  rw [hk] at h4 ⊢
  refine ⟨tagd_lt (by decide) (by show k < 2 ^ 64; have : (2 : Nat) ^ 64 = 18446744073709551616 := by decide
                                  omega), .i .i64 (.ofNat k), fun bx => dec_tagI (g := 7) (by decide) (by decide) bx, fun ih => aop0_pure ?_⟩
  simp only [apure, hcal, hargs, htys, amap_one ha, abul, alen, hs]
theorem strI_ok {v : Option AV} {i : Nat} (h : 1 ≤ strI v i) : ∃ n x, v = some (.s n x) ∧ i < n ∧ strI v i = Nat.mod (Nat.shiftRight x (8 * i)) 256 + 1 := by
  cases v with
  | none => cases h
  | some v =>
    have h : 1 ≤ avS v fun n x => Bool.rec 0 (Nat.succ (Nat.mod (Nat.shiftRight x (Nat.mul 8 i)) 256)) (Nat.ble (Nat.succ i) n) := h
    obtain ⟨n, x, rfl, he⟩ := avS_ok (v := v) (q := fun n x => Bool.rec 0 (Nat.succ (Nat.mod (Nat.shiftRight x (Nat.mul 8 i)) 256)) (Nat.ble (Nat.succ i) n)) (by omega)
    have h : 1 ≤ (Bool.rec 0 (Nat.succ (Nat.mod (Nat.shiftRight x (Nat.mul 8 i)) 256)) (Nat.ble (Nat.succ i) n) : Nat) := h
    have e : strI (some (AV.s n x)) i = (Bool.rec 0 (Nat.succ (Nat.mod (Nat.shiftRight x (Nat.mul 8 i)) 256)) (Nat.ble (Nat.succ i) n) : Nat) := rfl
    cases hb : Nat.ble (Nat.succ i) n with
    | false => rw [hb] at h; cases h
    | true =>
      rw [hb] at e
      rw [Nat.ble_eq] at hb
      exact ⟨n, x, rfl, hb, e⟩
theorem fIdxS_ok {ty : TypeId} (hx : OpdOk K x f g) (hy : OpdOk K y f' g') : FastOk P K nt dst (.index ty x y) (fIdxS P ty f g f') := by
  intro n t S h
  obtain ⟨h1, h2⟩ := add0 h
  obtain ⟨h1, h5⟩ := add0 h1
  obtain ⟨h2, h3⟩ := add0 h2
  have hs := isSt_ok h1
  have hi := int_op hy (t := t) h5
  obtain ⟨k, u, hv, hlt, hk⟩ := strI_ok (sub0 h3)
  have ha : evo K ⟨n, t⟩ x = some (.s k u) := by rw [box_op hx h2, hv]
  show tagd 8 (Nat.pred (strI (g t) (pl (f' n)))) < 2 ^ 192 ∧ ∃ a, (∀ bx, dec (tagd 8 (Nat.pred (strI (g t) (pl (f' n))))) bx = some a) ∧ _
  rw [hk]
  refine ⟨tagd_lt (by decide) (Nat.lt_of_lt_of_le (Nat.mod_lt (Nat.shiftRight u (8 * pl (f' n))) (by decide : 256 > 0)) (by decide)), _, fun bx => dec_tagI (g := 8) (by decide) (by decide) bx, fun ih => aop0_pure (qidx_ok ?_)⟩
  unfold qidx
  rw [ha]
  have hq : qbd (evo K ⟨n, t⟩) y = some (pl (f' n)) := by unfold qbd; rw [hi]; rfl
  show ob (qbd (evo K ⟨n, t⟩) y) (fun j => aidx P ty _ j) = _
  rw [hq]
  show aidx P ty _ (pl (f' n)) = _
  unfold aidx
  rw [hs]
  have hb : Nat.blt (pl (f' n)) k = true := by rw [blt_iff]; exact hlt
  simp only [hb, cond_true]
  rfl
theorem strE_ok {v u : Option AV} (h : 1 ≤ strE v u) : ∃ n x k y, v = some (.s n x) ∧ u = some (.s k y) ∧ strE v u = eq01 n k * eq01 x y + 1 := by
  cases v with
  | none => cases h
  | some v => cases u with
    | none => cases h
    | some u =>
      have h : 1 ≤ avS v fun n x => avS u fun k y => Nat.succ (Nat.mul (eq01 n k) (eq01 x y)) := h
      obtain ⟨n, x, rfl, he⟩ := avS_ok (v := v) (q := fun n x => avS u fun k y => Nat.succ (Nat.mul (eq01 n k) (eq01 x y))) (by omega)
      have h : 1 ≤ avS u fun k y => Nat.succ (Nat.mul (eq01 n k) (eq01 x y)) := h
      obtain ⟨k, y, rfl, he2⟩ := avS_ok (v := u) (q := fun k y => Nat.succ (Nat.mul (eq01 n k) (eq01 x y))) (by omega)
      exact ⟨n, x, k, y, rfl, rfl, rfl⟩
/-- a comparison: the same, or not -/
def EqOp (op : BinOp) (c : Nat → Nat) : Prop := (op = .eql ∧ c = fun x => x) ∨ (op = .neq ∧ c = fun x => Nat.sub 1 x)
theorem eqop_bit {op : BinOp} {c : Nat → Nat} (hc : EqOp op c) {q : Nat} {b : Bool} (hq : q = if b = true then 1 else 0) {ty uy : TypeId} {S : St} {n : Nat} {t : T AV} (h1 : op = .eql → qbin P (evo K ⟨n, t⟩) op ty x y = some (.b b)) (h2 : op = .neq → qbin P (evo K ⟨n, t⟩) op ty x y = some (.b (!b))) :
    bitC (c q) < 2 ^ 192 ∧ ∃ a, (∀ bx, dec (bitC (c q)) bx = some a) ∧ ∀ ih, aop0 P K ih S (evo K ⟨n, t⟩) (.binOp op ty x y uy) = .ok a S := by
  subst hq
  rcases hc with ⟨ho, rfl⟩ | ⟨ho, rfl⟩
  · refine ⟨by cases b <;> decide, .b b, fun bx => by cases b <;> rfl, fun ih => aop0_pure (qbin_ok (h1 ho))⟩
  · refine ⟨by cases b <;> decide, .b (!b), fun bx => by cases b <;> rfl, fun ih => aop0_pure (qbin_ok (h2 ho))⟩
theorem fStrE_ok {op : BinOp} {c : Nat → Nat} (hc : EqOp op c) {ty uy : TypeId} (hx : OpdOk K x f g) (hy : OpdOk K y f' g') : FastOk P K nt dst (.binOp op ty x y uy) (fStrE c f g f' g') := by
  intro n t S h
  obtain ⟨h1, h2⟩ := add0 h
  obtain ⟨h1, h3⟩ := add0 h1
  obtain ⟨k, u, j, v, hv1, hv2, he⟩ := strE_ok (sub0 h2)
  have ha : evo K ⟨n, t⟩ x = some (.s k u) := by rw [box_op hx h1, hv1]
  have hb : evo K ⟨n, t⟩ y = some (.s j v) := by rw [box_op hy h3, hv2]
  show bitC (c (Nat.pred (strE (g t) (g' t)))) < 2 ^ 192 ∧ ∃ a, (∀ bx, dec (bitC (c (Nat.pred (strE (g t) (g' t))))) bx = some a) ∧ _
  rw [he]
  refine eqop_bit hc (q := eq01 k j * eq01 u v) (b := Nat.beq k j && Nat.beq u v) ?_ (fun ho => ?_) (fun ho => ?_)
  · rw [eq01_eq, eq01_eq]
    cases Nat.beq k j <;> cases Nat.beq u v <;> rfl
  · subst ho; unfold qbin; rw [ha, hb]; rfl
  · subst ho; unfold qbin; rw [ha, hb]; rfl
/-! nothing, or something -/
theorem isN_eq (g c : Nat) : isN g c = if (Nat.beq (c % 32) g) = true then 1 else 0 := eq01_eq _ _
theorem fNils_ok {op : BinOp} {c : Nat → Nat} (hc : EqOp op c) {ty uy : TypeId} {vN : Nat → Nat} {gN : Nat} (hx : OpdOk K x f g) (hy : OpdOk K y f' g')
    (H : ∀ (c c' : Nat) (bx bx' : Option AV), vN c = 0 → vN c' = 0 → (c % 32 = gN ∨ c' % 32 = gN) → ∃ a b, dec c bx = some a ∧ dec c' bx' = some b ∧
      abinq P .eql ty x y a b = some (.b (Nat.beq (c % 32) gN && Nat.beq (c' % 32) gN)) ∧ abinq P .neq ty x y a b = some (.b (!(Nat.beq (c % 32) gN && Nat.beq (c' % 32) gN)))) : FastOk P K nt dst (.binOp op ty x y uy) (fNils vN gN c f f') := by
  intro n t S h
  obtain ⟨h1, h2⟩ := add0 h
  obtain ⟨h1, h3⟩ := add0 h1
  rw [isN_eq, isN_eq] at h2
  have hor : f n % 32 = gN ∨ f' n % 32 = gN := by
    by_cases e1 : f n % 32 = gN
    · exact .inl e1
    · by_cases e2 : f' n % 32 = gN
      · exact .inr e2
      · rw [bqn e1, bqn e2] at h2; cases h2
  obtain ⟨a, b, ha, hb, he, hn⟩ := H (f n) (f' n) (g t) (g' t) h1 h3 hor
  show bitC (c (Nat.mul (isN gN (f n)) (isN gN (f' n)))) < 2 ^ 192 ∧ ∃ a, (∀ bx, dec (bitC (c (Nat.mul (isN gN (f n)) (isN gN (f' n))))) bx = some a) ∧ _
  refine eqop_bit hc (b := Nat.beq (f n % 32) gN && Nat.beq (f' n % 32) gN) ?_ (fun ho => ?_) (fun ho => ?_)
  · rw [isN_eq, isN_eq]
    cases Nat.beq (f n % 32) gN <;> cases Nat.beq (f' n % 32) gN <;> rfl
  · subst ho; unfold qbin; rw [(hx n).2 t, (hy n).2 t, ha, hb]; exact he
  · subst ho; unfold qbin; rw [(hx n).2 t, (hy n).2 t, ha, hb]; exact hn
end
end Am
