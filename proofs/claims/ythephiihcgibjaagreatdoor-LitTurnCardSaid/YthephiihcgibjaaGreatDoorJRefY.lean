/- Package victuallerref1: what stands behind the digits of a literal, whatever it is. -/
import Derived.Test.YthephiihcgibjaaGreatDoorJWalkJ
import Derived.Test.YthephiihcgibjaaGreatDoorJTurnLaw
import Derived.Deep.QuietTactic
import Derived.BigQuiet
set_option linter.unusedVariables false
set_option linter.unusedSimpArgs false
namespace Vic
open Go Go.RowKit
def RexpGot (o : Option Int) (w : World) (e : Ending) (w' : World) : Prop :=
  (∃ v, o = some v ∧ e = .returned (.tuple #[.int .i64 v, .bool true]) ∧ Below w.heap.size w w') ∨ (o = none ∧ ∃ k, e = .returned (.tuple #[.int .i64 k, .bool false]) ∧ Below w.heap.size w w')
theorem exp_none {neg : Bool} {t : List UInt8} (h : ¬ (t ≠ [] ∧ t.length ≤ 3 ∧ (∀ c ∈ t, isDig c = true) ∧ numOf 0 t ≤ 100)) : expD neg t = none := by unfold expD; rw [if_neg h]
theorem exp_some {neg : Bool} {t : List UInt8} (h : t ≠ [] ∧ t.length ≤ 3 ∧ (∀ c ∈ t, isDig c = true) ∧ numOf 0 t ≤ 100) : expD neg t = some (sgn neg (numOf 0 t)) := by unfold expD; rw [if_pos h]
/-- what stands behind the e: its sign, if it has one, and its digits -/
theorem exp_parts (X : List UInt8) : ∃ (D : List UInt8) (neg sg : Bool), expo X = expD neg D ∧ D.length ≤ X.length ∧ (sg = false → X = D ∧ neg = false ∧ (D = [] ∨ ∃ g0 : 0 < (⟨X.toArray⟩ : ByteArray).size, X.isEmpty = false ∧ ((((⟨X.toArray⟩ : ByteArray)[0]'g0).toNat : Int) == 43) = false ∧ ((((⟨X.toArray⟩ : ByteArray)[0]'g0).toNat : Int) == 45) = false)) ∧
    (sg = true → X.isEmpty = false ∧ 1 ≤ X.length ∧ (⟨X.toArray⟩ : ByteArray).extract 1 X.length = ⟨D.toArray⟩ ∧ ∃ g0 : 0 < (⟨X.toArray⟩ : ByteArray).size, ((((⟨X.toArray⟩ : ByteArray)[0]'g0).toNat : Int) == 43) = (!neg) ∧ ((((⟨X.toArray⟩ : ByteArray)[0]'g0).toNat : Int) == 45) = neg) := by
  rcases X with _ | ⟨c, r⟩
  · exact ⟨[], false, false, (exp_none fun h => h.1 rfl).symm, Nat.le_refl _, fun _ => ⟨rfl, rfl, .inl rfl⟩, fun h => by cases h⟩
  · have h0 : 0 < (⟨(c :: r).toArray⟩ : ByteArray).size := by show 0 < (c :: r).toArray.size; simp
    by_cases h43 : c = 43
    · subst h43
      exact ⟨r, false, true, by simp [expo], by simp, fun h => (by cases h), fun _ => ⟨rfl, by simp, by rw [bytes_drop _ _ _ rfl]; rfl, h0, rfl, rfl⟩⟩
    · by_cases h45 : c = 45
      · subst h45
        exact ⟨r, true, true, by simp [expo], by simp, fun h => (by cases h), fun _ => ⟨rfl, by simp, by rw [bytes_drop _ _ _ rfl]; rfl, h0, rfl, rfl⟩⟩
      · refine ⟨c :: r, false, false, by simp [expo, h43, h45], Nat.le_refl _, fun _ => ⟨rfl, rfl, .inr ⟨h0, rfl, ?_, ?_⟩⟩, fun h => (by cases h)⟩
        · have h2 : c.toNat ≠ 43 := fun e => h43 (UInt8.toNat_inj.1 e)
          show ((c.toNat : Int) == 43) = false
          rw [beq_eq_false_iff_ne]; omega
        · have h2 : c.toNat ≠ 45 := fun e => h45 (UInt8.toNat_inj.1 e)
          show ((c.toNat : Int) == 45) = false
          rw [beq_eq_false_iff_ne]; omega
end Vic
namespace Go.Proofs.YthephiihcgibjaaGreatDoor
open Go.RowKit Vic

set_option maxRecDepth 100000 in
set_option maxHeartbeats 8000000 in
theorem ref_exponent_gen (w : World) (T : List UInt8) (hl : T.length ≤ 40) :
    Calls Tryz.prog 75 #[.string ⟨T.toArray⟩] w (RexpGot (rexp T) w) := by
  rcases hTT : T with _ | ⟨c, X⟩
  · rw [← hTT]
    have hTe : T.isEmpty = true := by rw [hTT]; rfl
    have hrx : rexp T = some 0 := by rw [hTT]; rfl
    have hTl : (T.length : Int) ≤ 40 := by omega
    rw [hrx]
    clear hTT hrx
    go_enter Tryz.func75, Tryz.ntmps75
    go_wp2_with fail
    go_ret2
    exact .inl ⟨0, rfl, rfl, Below.refl _ _⟩
  obtain ⟨D, neg, sg, hex, hDl, hs0, hs1⟩ := exp_parts X
  have hT := hTT
  clear hTT
  have hTe : T.isEmpty = false := by rw [hT]; rfl
  have hT0 : 0 < T.length := by rw [hT]; simp
  have hTl : (T.length : Int) ≤ 40 := by omega
  have hXl : X.length ≤ 40 := by rw [hT] at hl; simp at hl; omega
  have hDl4 : D.length ≤ 40 := by omega
  have hsl : (⟨T.toArray⟩ : ByteArray).extract 1 T.length = ⟨X.toArray⟩ := by rw [bytes_drop _ _ _ rfl, hT]; rfl
  obtain ⟨h0, hb⟩ : ∃ h0 : 0 < (⟨T.toArray⟩ : ByteArray).size, (((⟨T.toArray⟩ : ByteArray)[0]'h0).toNat : Int) = (c.toNat : Int) := by
    subst hT
    exact ⟨by show 0 < (c :: X).toArray.size; simp, rfl⟩
  have hrx : rexp T = if isE c = true then expo X else none := by rw [hT]; rfl
  rw [hex] at hrx
  rw [← hT]
  clear hT hex hDl
  by_cases hE : isE c = true
  case neg =>
    have he1 : ((c.toNat : Int) == 101) = false := by
      rw [beq_eq_false_iff_ne]; intro h
      have : c = 101 := UInt8.toNat_inj.1 (by show c.toNat = 101; omega)
      subst this; exact hE rfl
    have he2 : ((c.toNat : Int) == 69) = false := by
      rw [beq_eq_false_iff_ne]; intro h
      have : c = 69 := UInt8.toNat_inj.1 (by show c.toNat = 69; omega)
      subst this; exact hE rfl
    have he3 : ((c.toNat : Int) != 101) = true := by rw [bne_iff_ne]; exact beq_eq_false_iff_ne.1 he1
    have he4 : ((c.toNat : Int) != 69) = true := by rw [bne_iff_ne]; exact beq_eq_false_iff_ne.1 he2
    rw [if_neg hE] at hrx
    rw [hrx]
    clear hs0 hs1 hE hrx
    go_enter Tryz.func75, Tryz.ntmps75
    go_wp2_with fail
    go_ret2
    exact .inr ⟨rfl, 0, rfl, Below.refl _ _⟩
  case pos =>
    have hcc : ((c.toNat : Nat) : Int) = 101 ∨ ((c.toNat : Nat) : Int) = 69 := by
      unfold isE at hE
      rcases Bool.or_eq_true _ _ ▸ hE with h | h
      · rw [beq_iff_eq.1 h]; exact .inl rfl
      · rw [beq_iff_eq.1 h]; exact .inr rfl
    rw [if_pos hE] at hrx
    rw [hrx]
    have hDX : Hid (sg = false → D.length = X.length) := Lib.hid fun h => by rw [(hs0 h).1]
    clear hE hrx
    have HE1 : Hid (∀ i m : Nat, D = [] ∨ ¬ (D.length ≤ 3) ∨ (∃ c ∈ D, isDig c = false) ∨ 100 < numOf 0 D → expD neg D = none) := Lib.hid fun i m h => exp_none (by
      rintro ⟨a1, a2, a3, a4⟩
      rcases h with h | h | ⟨c, hc, h⟩ | h
      · exact a1 h
      · exact h a2
      · rw [a3 c hc] at h; cases h
      · omega)
    have HE2 : Hid (D ≠ [] → D.length ≤ 3 → (∀ c ∈ D, isDig c = true) → numOf 0 D ≤ 100 → expD neg D = some (sgn neg (numOf 0 D))) := Lib.hid fun a b c d => exp_some ⟨a, b, c, d⟩
    have HG : Hid (∀ ng : Bool, ng = neg → ((D = [] ∨ ¬ (D.length ≤ 3) ∨ (∃ c ∈ D, isDig c = false) ∨ 100 < numOf 0 D) → expD neg D = none) ∧ (D ≠ [] → D.length ≤ 3 → (∀ c ∈ D, isDig c = true) → numOf 0 D ≤ 100 → expD neg D = some (if ng then -(numOf 0 D : Int) else (numOf 0 D : Int)))) := Lib.hid fun ng h => ⟨HE1.out 0 0, fun a b c d => by rw [h]; exact HE2.out a b c d⟩
    obtain ⟨O, hO⟩ : ∃ O, O = expD neg D := ⟨_, rfl⟩
    rw [← hO] at HG ⊢
    clear HE1 HE2 hO hDX
    -- the roads to the loop
    have hcases : (sg = false ∧ D = [] ∧ X = [] ∧ neg = false) ∨ (sg = false ∧ X = D ∧ neg = false ∧ D.isEmpty = false ∧ ∃ g0 : 0 < (⟨X.toArray⟩ : ByteArray).size, ((((⟨X.toArray⟩ : ByteArray)[0]'g0).toNat : Int) == 43) = false ∧ ((((⟨X.toArray⟩ : ByteArray)[0]'g0).toNat : Int) == 45) = false) ∨
        (sg = true ∧ X.isEmpty = false ∧ 1 ≤ X.length ∧ (⟨X.toArray⟩ : ByteArray).extract 1 X.length = ⟨D.toArray⟩ ∧ ∃ g0 : 0 < (⟨X.toArray⟩ : ByteArray).size, ((((⟨X.toArray⟩ : ByteArray)[0]'g0).toNat : Int) == 43) = (!neg) ∧ ((((⟨X.toArray⟩ : ByteArray)[0]'g0).toNat : Int) == 45) = neg) := by
      cases hsg : sg
      · obtain ⟨a1, a2, a3⟩ := hs0 hsg
        rcases a3 with a3 | ⟨g0, a3, a4, a5⟩
        · exact .inl ⟨rfl, a3, by rw [a1, a3], a2⟩
        · exact .inr (.inl ⟨rfl, a1, a2, by rw [← a1]; exact a3, g0, a4, a5⟩)
      · exact .inr (.inr ⟨rfl, hs1 hsg⟩)
    clear hs0 hs1
    rcases hcases with ⟨-, hD, hX, rfl⟩ | ⟨-, hXD, rfl, hDe, g0, gb43, gb45⟩ | ⟨-, hXe, hX0, hsl2, g0, gb43, gb45⟩
    case' inl => have hDe : D.isEmpty = true := (by rw [hD]; rfl); have hXD : D = X := (by rw [hX, hD])
    case' inl => clear hD hX; subst hXD
    case' inr.inl => have hDX := hXD.symm
    case' inr.inl => clear hXD; subst hDX
    case' inr.inr => cases neg
    all_goals rcases hcc with hc1 | hc1
    all_goals
      rw [hc1] at hb
      clear hc1
      go_enter Tryz.func75, Tryz.ntmps75
      go_wp2_with fail
    all_goals first
      | (go_quiet (fail)
         go_wp2_with fail)
      | skip
    all_goals
      have HG1 := Lib.hid (HG.out _ rfl).1
      have HG2 := Lib.hid (HG.out _ rfl).2
      clear HG
      go_loopw [6, 5] (fun t u wr => ∃ (i m : Nat), t = .int .i64 i ∧ u = .int .i64 m ∧ i ≤ D.length ∧ i ≤ 3 ∧ Hid (m = numOf 0 (D.take i)) ∧ Hid (∀ c ∈ D.take i, isDig c = true) ∧ m < 1000 ∧ Below w.heap.size w wr) (fun t _ _ => D.length - (intOf t).toNat)
      case atStart => exact ⟨0, 0, rfl, rfl, by omega, by omega, Lib.hid rfl, Lib.hid (fun c hc => by simp at hc), by omega, by first | exact Below.refl _ _ | exact Below.drewN_ (Below.refl _ _) _⟩
      case round =>
        obtain ⟨i, m, rfl, rfl, hi, hi3, hm, hdg, hm3, hbr⟩ := hrel
        by_cases hlt : i < D.length
        · have hget : i < (⟨D.toArray⟩ : ByteArray).size := by show i < D.toArray.size; simp; omega
          obtain ⟨b, hbe⟩ : ∃ b, b = (⟨D.toArray⟩ : ByteArray)[i]'hget := ⟨_, rfl⟩
          have hLm : D[i]? = some b := by rw [hbe, List.getElem?_eq_getElem (by omega)]; rfl
          obtain ⟨x, hxe⟩ : ∃ x : Nat, x = b.toNat := ⟨_, rfl⟩
          have hx : ((((⟨D.toArray⟩ : ByteArray)[i]'hget).toNat : Nat) : Int) = (x : Int) := by rw [hxe, hbe]
          have hlt' : (i : Int) < (D.length : Int) := by omega
          by_cases hd : isDig b = true
          · have hbd := isDig_iff.1 hd
            have hx1 : 48 ≤ x := by omega
            have hx2 : x ≤ 57 := by omega
            have htk : D.take (i + 1) = D.take i ++ [b] := by rw [List.take_add_one, hLm]; rfl
            have hst : numOf 0 (D.take (i + 1)) = m * 10 + (x - 48) := by
              rw [htk, numOf_append, ← hm.out, numOf_cons, numOf_nil, hxe]
            have hdg2 : ∀ c ∈ D.take (i + 1), isDig c = true := by
              rw [htk]
              intro c hc
              rcases List.mem_append.1 hc with h | h
              · exact hdg.out c h
              · simp at h; rw [h]; exact hd
            have HST := Lib.hid hst
            have HDG2 := Lib.hid hdg2
            have hm4 : i ≤ 2 → numOf 0 (D.take (i + 1)) < 1000 := fun h => by
              have h1 := numOf_lt (D.take (i + 1)) hdg2
              rw [List.length_take] at h1
              exact Nat.lt_of_lt_of_le h1 (Nat.le_trans (Nat.pow_le_pow_right (by omega) (show min (i + 1) D.length ≤ 3 by omega)) (by omega))
            rw [hst] at hm4
            have hw1 : IntKind.i64.wrap ((m : Int) * 10 + ((x : Int) - 48)) = ((m * 10 + (x - 48) : Nat) : Int) := by rw [IntKind.wrap_i64]; omega
            clear hbe hLm hbd hxe hst hdg2 htk hd
            by_cases hi2 : i ≤ 2
            · have hm5 := hm4 hi2
              have hi2' : ¬ (2 : Int) < (i : Int) := by omega
              clear hm4
              go_wp2_with fail
              go_roundw
              case rel => exact ⟨i + 1, m * 10 + (x - 48), by go_num, by first | rfl | (congr 1; omega), by omega, by omega, Lib.hid HST.out.symm, HDG2, hm5, hbr⟩
              case measure => simp [intOf]; omega
            · have hi2' : (2 : Int) < (i : Int) := by omega
              clear hm4
              go_wp2_with fail
              go_ret2
              exact .inr ⟨HG1.out (.inr (.inl (by omega))), _, rfl, hbr⟩
          · have hno : (∃ c ∈ D, isDig c = false) := ⟨b, List.mem_of_getElem? hLm, by simpa using hd⟩
            have HNO := Lib.hid hno
            have hor : (x : Int) < 48 ∨ (¬ (x : Int) < 48 ∧ (57 : Int) < (x : Int)) := by
              have h : ¬ (48 ≤ b.toNat ∧ b.toNat ≤ 57) := fun h => hd (isDig_iff.2 h)
              omega
            clear hno hbe hLm hxe hd
            rcases hor with hx1 | ⟨hx1, hx2⟩
            all_goals
              go_wp2_with fail
              go_ret2
              exact .inr ⟨HG1.out (.inr (.inr (.inl HNO.out))), _, rfl, hbr⟩
        · obtain rfl : i = D.length := by omega
          have hdD : Hid (∀ c ∈ D, isDig c = true) := Lib.hid (by have := hdg.out; rwa [List.take_length] at this)
          have hmD : Hid (m = numOf 0 D) := Lib.hid (by have := hm.out; rwa [List.take_length] at this)
          clear hm hdg
          by_cases hD0 : D.isEmpty = true
          · first
              | (have hD1 := hDe
                 rw [hD0] at hD1
                 exact Bool.noConfusion hD1)
              | (have hnil : Hid (D = []) := Lib.hid (by simpa using hD0)
                 have hm0 : m = 0 := by rw [hmD.out, hnil.out]; rfl
                 subst hm0
                 go_wp2_with fail
                 go_ret2
                 exact .inr ⟨HG1.out (.inl hnil.out), _, rfl, hbr⟩)
          · first
              | (exfalso
                 rw [hDe] at hD0
                 exact hD0 rfl)
              | (have hD1 : D.isEmpty = false := by simpa using hD0
                 have hne : Hid (D ≠ []) := Lib.hid fun h => by rw [h] at hD1; cases hD1
                 clear hD0
                 by_cases h100 : m ≤ 100
                 · have h100' : (m : Int) ≤ 100 := by omega
                   go_wp2_with fail
                   go_ret2
                   refine .inl ⟨_, HG2.out hne.out hi3 hdD.out (by rw [← hmD.out]; exact h100), ?_, hbr⟩
                   rw [← hmD.out]; rfl
                 · have h100' : decide ((m : Int) ≤ 100) = false := decide_eq_false (by omega)
                   have h101 : decide (-100 ≤ -(m : Int)) = false := decide_eq_false (by omega)
                   have h102 : ¬ (-100 : Int) ≤ -(m : Int) := by omega
                   have h103 : (100 : Int) < (m : Int) := by omega
                   go_wp2_with fail
                   go_ret2
                   exact .inr ⟨HG1.out (.inr (.inr (.inr (by rw [← hmD.out]; omega)))), _, rfl, hbr⟩)
end Go.Proofs.YthephiihcgibjaaGreatDoor
