/- Package victuallerref1: what stands behind the digits of a literal, whatever it is. And: Package victuallerref1: a literal, whatever the text. -/
import Derived.Test.YthephiihcgibjaaGreatDoorJWalkJ
import Derived.Test.YthephiihcgibjaaGreatDoorJPlainC
import Derived.Deep.QuietTactic
import Derived.BigQuiet
import Derived.Test.YthephiihcgibjaaGreatDoorJWalkQ
import Derived.Deep.RegionWith
set_option linter.unusedVariables false
set_option linter.unusedSimpArgs false
namespace Vic
open Go Go.RowKit
def RexpGot (o : Option Int) (w : World) (e : Ending) (w' : World) : Prop :=
  (∃ v, o = some v ∧ e = .returned (.tuple #[.int .i64 v, .bool true]) ∧ Below w.heap.size w w') ∨ (o = none ∧ ∃ k, e = .returned (.tuple #[.int .i64 k, .bool false]) ∧ Below w.heap.size w w')
theorem exp_none {neg : Bool} {t : List UInt8} (h : ¬ (t ≠ [] ∧ t.length ≤ 3 ∧ (∀ c ∈ t, isDig c = true) ∧ numOf 0 t ≤ 100)) : expD neg t = none := by unfold expD; rw [if_neg h]
theorem exp_some {neg : Bool} {t : List UInt8} (h : t ≠ [] ∧ t.length ≤ 3 ∧ (∀ c ∈ t, isDig c = true) ∧ numOf 0 t ≤ 100) : expD neg t = some (sgn neg (numOf 0 t)) := by unfold expD; rw [if_pos h]
/-- what stands behind the e: its sign, if it has one, and its digits -/
theorem exp_parts (X : List UInt8) : ∃ (D : List UInt8) (neg sg : Bool), expo X = expD neg D ∧ D.length ≤ X.length ∧ (sg = false → X = D ∧ neg = false ∧ (D = [] ∨ ∃ g0 : 0 < (⟨X.toArray⟩ : ByteArray).size, X.isEmpty = false ∧ ((((⟨X.toArray⟩ : ByteArray)[0]'g0).toNat : Int) == 43) = false ∧ ((((⟨X.toArray⟩ : ByteArray)[0]'g0).toNat : Int) == 45) = false)) ∧
    (sg = true → X.isEmpty = false ∧ 1 ≤ X.length ∧ (⟨X.toArray⟩ : ByteArray).extract 1 X.length = ⟨D.toArray⟩ ∧ ∃ g0 : 0 < (⟨X.toArray⟩ : ByteArray).size, ((((⟨X.toArray⟩ : ByteArray)[0]'g0).toNat : Int) == 43) = (!neg) ∧ ((((⟨X.toArray⟩ : ByteArray)[0]'g0).toNat : Int) == 45) = neg) := by
  rcases X with _ | ⟨c, r⟩
  · exact ⟨[], false, false, (exp_none fun h => h.1 rfl).symm, Nat.le_refl _, fun _ => ⟨rfl, rfl, .inl rfl⟩, fun h => by cases h⟩
  · have h0 : 0 < (⟨(c :: r).toArray⟩ : ByteArray).size := by show 0 < (c :: r).toArray.size; simp
    by_cases h43 : c = 43
    · subst h43
      exact ⟨r, false, true, by simp [expo], by simp, fun h => (by cases h), fun _ => ⟨rfl, by simp, by rw [bytes_drop _ _ _ rfl]; rfl, h0, rfl, rfl⟩⟩
    · by_cases h45 : c = 45
      · subst h45
        exact ⟨r, true, true, by simp [expo], by simp, fun h => (by cases h), fun _ => ⟨rfl, by simp, by rw [bytes_drop _ _ _ rfl]; rfl, h0, rfl, rfl⟩⟩
      · refine ⟨c :: r, false, false, by simp [expo, h43, h45], Nat.le_refl _, fun _ => ⟨rfl, rfl, .inr ⟨h0, rfl, ?_, ?_⟩⟩, fun h => (by cases h)⟩
        · have h2 : c.toNat ≠ 43 := fun e => h43 (UInt8.toNat_inj.1 e)
          show ((c.toNat : Int) == 43) = false
          rw [beq_eq_false_iff_ne]; omega
        · have h2 : c.toNat ≠ 45 := fun e => h45 (UInt8.toNat_inj.1 e)
          show ((c.toNat : Int) == 45) = false
          rw [beq_eq_false_iff_ne]; omega
end Vic
namespace Go.Proofs.YthephiihcgibjaaGreatDoor
open Go.RowKit Vic

set_option maxRecDepth 100000 in
set_option maxHeartbeats 8000000 in
theorem ref_exponent_gen (w : World) (T : List UInt8) (hl : T.length ≤ 40) :
    Calls Tryz.prog 75 #[.string ⟨T.toArray⟩] w (RexpGot (rexp T) w) := by
  rcases hTT : T with _ | ⟨c, X⟩
  · rw [← hTT]
    have hTe : T.isEmpty = true := by rw [hTT]; rfl
    have hrx : rexp T = some 0 := by rw [hTT]; rfl
    have hTl : (T.length : Int) ≤ 40 := by omega
    rw [hrx]
    clear hTT hrx
    go_enter Tryz.func75, Tryz.ntmps75
    go_wp2_with fail
    go_ret2
    exact .inl ⟨0, rfl, rfl, Below.refl _ _⟩
  obtain ⟨D, neg, sg, hex, hDl, hs0, hs1⟩ := exp_parts X
  have hT := hTT
  clear hTT
  have hTe : T.isEmpty = false := by rw [hT]; rfl
  have hT0 : 0 < T.length := by rw [hT]; simp
  have hTl : (T.length : Int) ≤ 40 := by omega
  have hXl : X.length ≤ 40 := by rw [hT] at hl; simp at hl; omega
  have hDl4 : D.length ≤ 40 := by omega
  have hsl : (⟨T.toArray⟩ : ByteArray).extract 1 T.length = ⟨X.toArray⟩ := by rw [bytes_drop _ _ _ rfl, hT]; rfl
  obtain ⟨h0, hb⟩ : ∃ h0 : 0 < (⟨T.toArray⟩ : ByteArray).size, (((⟨T.toArray⟩ : ByteArray)[0]'h0).toNat : Int) = (c.toNat : Int) := by
    subst hT
    exact ⟨by show 0 < (c :: X).toArray.size; simp, rfl⟩
  have hrx : rexp T = if isE c = true then expo X else none := by rw [hT]; rfl
  rw [hex] at hrx
  rw [← hT]
  clear hT hex hDl
  by_cases hE : isE c = true
  case neg =>
    have he1 : ((c.toNat : Int) == 101) = false := by
      rw [beq_eq_false_iff_ne]; intro h
      have : c = 101 := UInt8.toNat_inj.1 (by show c.toNat = 101; omega)
      subst this; exact hE rfl
    have he2 : ((c.toNat : Int) == 69) = false := by
      rw [beq_eq_false_iff_ne]; intro h
      have : c = 69 := UInt8.toNat_inj.1 (by show c.toNat = 69; omega)
      subst this; exact hE rfl
    have he3 : ((c.toNat : Int) != 101) = true := by rw [bne_iff_ne]; exact beq_eq_false_iff_ne.1 he1
    have he4 : ((c.toNat : Int) != 69) = true := by rw [bne_iff_ne]; exact beq_eq_false_iff_ne.1 he2
    rw [if_neg hE] at hrx
    rw [hrx]
    clear hs0 hs1 hE hrx
    go_enter Tryz.func75, Tryz.ntmps75
    go_wp2_with fail
    go_ret2
    exact .inr ⟨rfl, 0, rfl, Below.refl _ _⟩
  case pos =>
    have hcc : ((c.toNat : Nat) : Int) = 101 ∨ ((c.toNat : Nat) : Int) = 69 := by
      unfold isE at hE
      rcases Bool.or_eq_true _ _ ▸ hE with h | h
      · rw [beq_iff_eq.1 h]; exact .inl rfl
      · rw [beq_iff_eq.1 h]; exact .inr rfl
    rw [if_pos hE] at hrx
    rw [hrx]
    have hDX : Hid (sg = false → D.length = X.length) := Lib.hid fun h => by rw [(hs0 h).1]
    clear hE hrx
    have HE1 : Hid (∀ i m : Nat, D = [] ∨ ¬ (D.length ≤ 3) ∨ (∃ c ∈ D, isDig c = false) ∨ 100 < numOf 0 D → expD neg D = none) := Lib.hid fun i m h => exp_none (by
      rintro ⟨a1, a2, a3, a4⟩
      rcases h with h | h | ⟨c, hc, h⟩ | h
      · exact a1 h
      · exact h a2
      · rw [a3 c hc] at h; cases h
      · omega)
    have HE2 : Hid (D ≠ [] → D.length ≤ 3 → (∀ c ∈ D, isDig c = true) → numOf 0 D ≤ 100 → expD neg D = some (sgn neg (numOf 0 D))) := Lib.hid fun a b c d => exp_some ⟨a, b, c, d⟩
    have HG : Hid (∀ ng : Bool, ng = neg → ((D = [] ∨ ¬ (D.length ≤ 3) ∨ (∃ c ∈ D, isDig c = false) ∨ 100 < numOf 0 D) → expD neg D = none) ∧ (D ≠ [] → D.length ≤ 3 → (∀ c ∈ D, isDig c = true) → numOf 0 D ≤ 100 → expD neg D = some (if ng then -(numOf 0 D : Int) else (numOf 0 D : Int)))) := Lib.hid fun ng h => ⟨HE1.out 0 0, fun a b c d => by rw [h]; exact HE2.out a b c d⟩
    obtain ⟨O, hO⟩ : ∃ O, O = expD neg D := ⟨_, rfl⟩
    rw [← hO] at HG ⊢
    clear HE1 HE2 hO hDX
    -- the roads to the loop
    have hcases : (sg = false ∧ D = [] ∧ X = [] ∧ neg = false) ∨ (sg = false ∧ X = D ∧ neg = false ∧ D.isEmpty = false ∧ ∃ g0 : 0 < (⟨X.toArray⟩ : ByteArray).size, ((((⟨X.toArray⟩ : ByteArray)[0]'g0).toNat : Int) == 43) = false ∧ ((((⟨X.toArray⟩ : ByteArray)[0]'g0).toNat : Int) == 45) = false) ∨
        (sg = true ∧ X.isEmpty = false ∧ 1 ≤ X.length ∧ (⟨X.toArray⟩ : ByteArray).extract 1 X.length = ⟨D.toArray⟩ ∧ ∃ g0 : 0 < (⟨X.toArray⟩ : ByteArray).size, ((((⟨X.toArray⟩ : ByteArray)[0]'g0).toNat : Int) == 43) = (!neg) ∧ ((((⟨X.toArray⟩ : ByteArray)[0]'g0).toNat : Int) == 45) = neg) := by
      cases hsg : sg
      · obtain ⟨a1, a2, a3⟩ := hs0 hsg
        rcases a3 with a3 | ⟨g0, a3, a4, a5⟩
        · exact .inl ⟨rfl, a3, by rw [a1, a3], a2⟩
        · exact .inr (.inl ⟨rfl, a1, a2, by rw [← a1]; exact a3, g0, a4, a5⟩)
      · exact .inr (.inr ⟨rfl, hs1 hsg⟩)
    clear hs0 hs1
    rcases hcases with ⟨-, hD, hX, rfl⟩ | ⟨-, hXD, rfl, hDe, g0, gb43, gb45⟩ | ⟨-, hXe, hX0, hsl2, g0, gb43, gb45⟩
    case' inl => have hDe : D.isEmpty = true := (by rw [hD]; rfl); have hXD : D = X := (by rw [hX, hD])
    case' inl => clear hD hX; subst hXD
    case' inr.inl => have hDX := hXD.symm
    case' inr.inl => clear hXD; subst hDX
    case' inr.inr => cases neg
    all_goals rcases hcc with hc1 | hc1
    all_goals
      rw [hc1] at hb
      clear hc1
      go_enter Tryz.func75, Tryz.ntmps75
      go_wp2_with fail
    all_goals first
      | (go_quiet (fail)
         go_wp2_with fail)
      | skip
    all_goals
      have HG1 := Lib.hid (HG.out _ rfl).1
      have HG2 := Lib.hid (HG.out _ rfl).2
      clear HG
      go_loopw [6, 5] (fun t u wr => ∃ (i m : Nat), t = .int .i64 i ∧ u = .int .i64 m ∧ i ≤ D.length ∧ i ≤ 3 ∧ Hid (m = numOf 0 (D.take i)) ∧ Hid (∀ c ∈ D.take i, isDig c = true) ∧ m < 1000 ∧ Below w.heap.size w wr) (fun t _ _ => D.length - (intOf t).toNat)
      case atStart => exact ⟨0, 0, rfl, rfl, by omega, by omega, Lib.hid rfl, Lib.hid (fun c hc => by simp at hc), by omega, by first | exact Below.refl _ _ | exact Below.drewN_ (Below.refl _ _) _⟩
      case round =>
        obtain ⟨i, m, rfl, rfl, hi, hi3, hm, hdg, hm3, hbr⟩ := hrel
        by_cases hlt : i < D.length
        · have hget : i < (⟨D.toArray⟩ : ByteArray).size := by show i < D.toArray.size; simp; omega
          obtain ⟨b, hbe⟩ : ∃ b, b = (⟨D.toArray⟩ : ByteArray)[i]'hget := ⟨_, rfl⟩
          have hLm : D[i]? = some b := by rw [hbe, List.getElem?_eq_getElem (by omega)]; rfl
          obtain ⟨x, hxe⟩ : ∃ x : Nat, x = b.toNat := ⟨_, rfl⟩
          have hx : ((((⟨D.toArray⟩ : ByteArray)[i]'hget).toNat : Nat) : Int) = (x : Int) := by rw [hxe, hbe]
          have hlt' : (i : Int) < (D.length : Int) := by omega
          by_cases hd : isDig b = true
          · have hbd := isDig_iff.1 hd
            have hx1 : 48 ≤ x := by omega
            have hx2 : x ≤ 57 := by omega
            have htk : D.take (i + 1) = D.take i ++ [b] := by rw [List.take_add_one, hLm]; rfl
            have hst : numOf 0 (D.take (i + 1)) = m * 10 + (x - 48) := by
              rw [htk, numOf_append, ← hm.out, numOf_cons, numOf_nil, hxe]
            have hdg2 : ∀ c ∈ D.take (i + 1), isDig c = true := by
              rw [htk]
              intro c hc
              rcases List.mem_append.1 hc with h | h
              · exact hdg.out c h
              · simp at h; rw [h]; exact hd
            have HST := Lib.hid hst
            have HDG2 := Lib.hid hdg2
            have hm4 : i ≤ 2 → numOf 0 (D.take (i + 1)) < 1000 := fun h => by
              have h1 := numOf_lt (D.take (i + 1)) hdg2
              rw [List.length_take] at h1
              exact Nat.lt_of_lt_of_le h1 (Nat.le_trans (Nat.pow_le_pow_right (by omega) (show min (i + 1) D.length ≤ 3 by omega)) (by omega))
            rw [hst] at hm4
            have hw1 : IntKind.i64.wrap ((m : Int) * 10 + ((x : Int) - 48)) = ((m * 10 + (x - 48) : Nat) : Int) := by rw [IntKind.wrap_i64]; omega
            clear hbe hLm hbd hxe hst hdg2 htk hd
            by_cases hi2 : i ≤ 2
            · have hm5 := hm4 hi2
              have hi2' : ¬ (2 : Int) < (i : Int) := by omega
              clear hm4
              go_wp2_with fail
              go_roundw
              case rel => exact ⟨i + 1, m * 10 + (x - 48), by go_num, by first | rfl | (congr 1; omega), by omega, by omega, Lib.hid HST.out.symm, HDG2, hm5, hbr⟩
              case measure => simp [intOf]; omega
            · have hi2' : (2 : Int) < (i : Int) := by omega
              clear hm4
              go_wp2_with fail
              go_ret2
              exact .inr ⟨HG1.out (.inr (.inl (by omega))), _, rfl, hbr⟩
          · have hno : (∃ c ∈ D, isDig c = false) := ⟨b, List.mem_of_getElem? hLm, by simpa using hd⟩
            have HNO := Lib.hid hno
            have hor : (x : Int) < 48 ∨ (¬ (x : Int) < 48 ∧ (57 : Int) < (x : Int)) := by
              have h : ¬ (48 ≤ b.toNat ∧ b.toNat ≤ 57) := fun h => hd (isDig_iff.2 h)
              omega
            clear hno hbe hLm hxe hd
            rcases hor with hx1 | ⟨hx1, hx2⟩
            all_goals
              go_wp2_with fail
              go_ret2
              exact .inr ⟨HG1.out (.inr (.inr (.inl HNO.out))), _, rfl, hbr⟩
        · obtain rfl : i = D.length := by omega
          have hdD : Hid (∀ c ∈ D, isDig c = true) := Lib.hid (by have := hdg.out; rwa [List.take_length] at this)
          have hmD : Hid (m = numOf 0 D) := Lib.hid (by have := hm.out; rwa [List.take_length] at this)
          clear hm hdg
          by_cases hD0 : D.isEmpty = true
          · first
              | (have hD1 := hDe
                 rw [hD0] at hD1
                 exact Bool.noConfusion hD1)
              | (have hnil : Hid (D = []) := Lib.hid (by simpa using hD0)
                 have hm0 : m = 0 := by rw [hmD.out, hnil.out]; rfl
                 subst hm0
                 go_wp2_with fail
                 go_ret2
                 exact .inr ⟨HG1.out (.inl hnil.out), _, rfl, hbr⟩)
          · first
              | (exfalso
                 rw [hDe] at hD0
                 exact hD0 rfl)
              | (have hD1 : D.isEmpty = false := by simpa using hD0
                 have hne : Hid (D ≠ []) := Lib.hid fun h => by rw [h] at hD1; cases hD1
                 clear hD0
                 by_cases h100 : m ≤ 100
                 · have h100' : (m : Int) ≤ 100 := by omega
                   go_wp2_with fail
                   go_ret2
                   refine .inl ⟨_, HG2.out hne.out hi3 hdD.out (by rw [← hmD.out]; exact h100), ?_, hbr⟩
                   rw [← hmD.out]; rfl
                 · have h100' : decide ((m : Int) ≤ 100) = false := decide_eq_false (by omega)
                   have h101 : decide (-100 ≤ -(m : Int)) = false := decide_eq_false (by omega)
                   have h102 : ¬ (-100 : Int) ≤ -(m : Int) := by omega
                   have h103 : (100 : Int) < (m : Int) := by omega
                   go_wp2_with fail
                   go_ret2
                   exact .inr ⟨HG1.out (.inr (.inr (.inr (by rw [← hmD.out]; omega)))), _, rfl, hbr⟩)
end Go.Proofs.YthephiihcgibjaaGreatDoor
set_option linter.unusedVariables false
set_option linter.unusedSimpArgs false
namespace Vic
open Go Go.RowKit
/-- a struct's variable, its one field that is turned, a number that lies elsewhere -/
theorem qstepA {T : TypeId} {w W : World} {b : Nat} {ng : Bool} {A A2 A9 : Option Addr} {m c m2 c2 m9 c9 n9 d : Nat} (hr : Row W b T #[.bool ng, .slice A m c, .slice A2 m2 c2]) (hB : Below w.heap.size w W) (hb : w.heap.size ≤ b)
    (hx : RefN W (.slice A9 m9 c9) n9) (hy : RefN W (.slice A2 m2 c2) d) :
    Row (W.setCell ⟨b, 1, none⟩ (.slice A9 m9 c9)) b T #[.bool ng, .slice A9 m9 c9, .slice A2 m2 c2] ∧ RefN (W.setCell ⟨b, 1, none⟩ (.slice A9 m9 c9)) (.slice A9 m9 c9) n9 ∧ RefN (W.setCell ⟨b, 1, none⟩ (.slice A9 m9 c9)) (.slice A2 m2 c2) d ∧ Below w.heap.size w (W.setCell ⟨b, 1, none⟩ (.slice A9 m9 c9)) := by
  have hO : Only b W (W.setCell ⟨b, 1, none⟩ (.slice A9 m9 c9)) := (Only.refl _ _).setCell 1 _
  have hcs := qrow_far ng (.slice A m c) (.slice A2 m2 c2) (fun _ _ h => by cases h) (fun _ _ h => by cases h)
  exact ⟨Row.set hr 1 _, Ints.rowfar hx hr (hcs _) hO, Ints.rowfar hy hr (hcs _) hO, hB.trans (hO.below hb)⟩
theorem qstepB {T : TypeId} {w W : World} {b : Nat} {ng : Bool} {A A2 A9 : Option Addr} {m c m2 c2 m9 c9 n d9 : Nat} (hr : Row W b T #[.bool ng, .slice A m c, .slice A2 m2 c2]) (hB : Below w.heap.size w W) (hb : w.heap.size ≤ b)
    (hx : RefN W (.slice A m c) n) (hy : RefN W (.slice A9 m9 c9) d9) :
    Row (W.setCell ⟨b, 2, none⟩ (.slice A9 m9 c9)) b T #[.bool ng, .slice A m c, .slice A9 m9 c9] ∧ RefN (W.setCell ⟨b, 2, none⟩ (.slice A9 m9 c9)) (.slice A m c) n ∧ RefN (W.setCell ⟨b, 2, none⟩ (.slice A9 m9 c9)) (.slice A9 m9 c9) d9 ∧ Below w.heap.size w (W.setCell ⟨b, 2, none⟩ (.slice A9 m9 c9)) := by
  have hO : Only b W (W.setCell ⟨b, 2, none⟩ (.slice A9 m9 c9)) := (Only.refl _ _).setCell 2 _
  have hcs := qrow_far ng (.slice A m c) (.slice A2 m2 c2) (fun _ _ h => by cases h) (fun _ _ h => by cases h)
  exact ⟨Row.set hr 2 _, Ints.rowfar hx hr (hcs _) hO, Ints.rowfar hy hr (hcs _) hO, hB.trans (hO.below hb)⟩
/-- the three cells of a struct's variable are written -/
theorem qput {T : TypeId} {w W : World} {b : Nat} (v0 v1 v2 : Value) (hr : Row W b T #[.bool false, .slice none 0 0, .slice none 0 0]) (hB : Below w.heap.size w W) (hb : w.heap.size ≤ b) :
    ∃ w9, w9 = ((W.setCell ⟨b, 0, none⟩ v0).setCell ⟨b, 1, none⟩ v1).setCell ⟨b, 2, none⟩ v2 ∧ Row w9 b T #[v0, v1, v2] ∧ Below w.heap.size w w9 ∧
      W.cell? ⟨b, 0, none⟩ = some (.bool false) ∧ W.cell? ⟨b, 1, none⟩ = some (.slice none 0 0) ∧ W.cell? ⟨b, 2, none⟩ = some (.slice none 0 0) ∧
      W.frozen? ⟨b, 0, none⟩ = false ∧ W.frozen? ⟨b, 1, none⟩ = false ∧ W.frozen? ⟨b, 2, none⟩ = false := by
  have hO : Only b W (((W.setCell ⟨b, 0, none⟩ v0).setCell ⟨b, 1, none⟩ v1).setCell ⟨b, 2, none⟩ v2) := (((Only.refl _ _).setCell 0 _).setCell 1 _).setCell 2 _
  exact ⟨_, rfl, Row.set (Row.set (Row.set hr 0 v0) 1 v1) 2 v2, hB.trans (hO.below hb), hr.cell 0, hr.cell 1, hr.cell 2, hr.free 0, hr.free 1, hr.free 2⟩
theorem tdg_p40 {n q : Nat} (hn : n < 10 ^ 40) (h : q ≤ 140) : (tdg (n * 10 ^ q)).length ≤ 45 := by
  refine tdg_len (k := 45) ?_
  have h1 : n * 10 ^ q < 10 ^ 40 * 10 ^ 140 := Nat.mul_lt_mul_of_lt_of_le hn (Nat.pow_le_pow_right (by omega) h) (Nat.pow_pos (by omega))
  exact Nat.lt_of_lt_of_le h1 (by decide +kernel)
def RefLitGot (S : List UInt8) (w : World) (e : Ending) (w' : World) : Prop :=
  (refBody (strip S) = none ∧ ∃ g, e = .returned (.tuple #[.agg #[.bool false, .slice none 0 0, .slice (some ⟨g, 0, none⟩) 1 1], .bool false]) ∧ Below w.heap.size w w') ∨
  (∃ n p, refBody (strip S) = some (n, p) ∧ n < 10 ^ 40 ∧ -140 ≤ p ∧ p ≤ 100 ∧ ∃ v, e = .returned (.tuple #[v, .bool true]) ∧ RefQ w' v (neg0 S && decide (n ≠ 0)) (n * 10 ^ p.toNat) (10 ^ (-p).toNat) ∧ Below w.heap.size w w')
end Vic
namespace Go.Proofs.YthephiihcgibjaaGreatDoor
open Go.RowKit Vic

set_option maxRecDepth 100000 in
set_option maxHeartbeats 2000000 in
theorem ref_Zero (w : World) : Calls Tryz.prog 32 #[] w (fun e w' => ∃ g, e = .returned (.agg #[.bool false, .slice none 0 0, .slice (some ⟨g, 0, none⟩) 1 1]) ∧ RefN w' (.slice (some ⟨g, 0, none⟩) 1 1) 1 ∧ Below w.heap.size w w') := by
  obtain ⟨w0, hw0⟩ : ∃ w0, w0 = w.alloc (.cells #[.bool false, .slice none 0 0, .slice (some ⟨w.heap.size + 1, 0, none⟩) 1 1] 27) := ⟨_, rfl⟩
  have r1 : Row w0 w.heap.size 27 #[.bool false, .slice none 0 0, .slice (some ⟨w.heap.size + 1, 0, none⟩) 1 1] := by rw [hw0]; exact Row.new _ _ _
  have b0 : Below w.heap.size w w0 := by rw [hw0]; exact (Below.refl _ _).alloc (Nat.le_refl _) _
  have e0 : w0.heap.size = w.heap.size + 1 := by rw [hw0]; simp
  obtain ⟨w1, hw1⟩ : ∃ w1, w1 = w0.alloc (.cells #[.int .i64 1] 3) := ⟨_, rfl⟩
  have b1 : Below w0.heap.size w0 w1 := by rw [hw1]; exact (Below.refl _ _).alloc (Nat.le_refl _) _
  have hone : RefN w1 (.slice (some ⟨w0.heap.size, 0, none⟩) 1 1) 1 := ref_one (d := 1) (by rw [hw1]; exact Row.new _ _ _) (by omega) (by omega)
  rw [e0] at hone
  have HW0 := Lib.hid hw0; have HW1 := Lib.hid hw1; have HR1 := Lib.hid (r1.keep b1); have H1 := Lib.hid hone; have HB := Lib.hid (below_seq b0 b1)
  have hsz : (Tryz.prog.info? 27).map (·.size) = some 3 := by kernel_rfl
  clear hw0 hw1 hone r1 b0 b1
  go_enter Tryz.func32, Tryz.ntmps32
  go_wp2_with fail
  rw [← HW0.out, ← HW1.out]
  refine bodyPost_ret (v := .agg #[.bool false, .slice none 0 0, .slice (some ⟨w.heap.size + 1, 0, none⟩) 1 1]) (results_cell_row (p := 0) (ty := 27) Tryz.results32 _ _ w.heap.size 27 #[.bool false, .slice none 0 0, .slice (some ⟨w.heap.size + 1, 0, none⟩) 1 1] (0, 0) _ (by simp [go_sem]) HR1.out Tryz.underlying27 rfl hsz) rfl ?_
  exact ⟨_, rfl, H1.out, HB.out⟩

set_option maxRecDepth 100000 in
set_option maxHeartbeats 16000000 in
theorem ref_Lit_gen (w : World) (S : List UInt8) (hl : S.length ≤ 40) (hnog : ¬ FracGood S) :
    Calls Tryz.prog 17 #[.string ⟨S.toArray⟩] w (RefLitGot S w) := by
  obtain ⟨sg, hs0, hs1⟩ := strip_parts S
  have hTl0 := strip_len S
  obtain ⟨T, hT⟩ : ∃ T, T = strip S := ⟨_, rfl⟩
  obtain ⟨neg, hneg⟩ : ∃ neg, neg = neg0 S := ⟨_, rfl⟩
  unfold RefLitGot
  rw [← hT] at hs0 hs1 hTl0 ⊢
  rw [← hneg] at hs0 hs1 ⊢
  obtain ⟨M, R, hMR, hMc0, hR, hB0⟩ : ∃ M R, T = M ++ R ∧ (∀ c ∈ M, okC c = true) ∧ (R = [] ∨ ∃ c x, R = c :: x ∧ okC c = false) ∧ refBody T = if (litSt M).2.1 = 0 ∨ 1 < (litSt M).2.2.1 then none else ((rexp R).map fun e => ((litSt M).1, e - ((litSt M).2.2.2 : Int)) : Option (Nat × Int)) := by
    rcases first_bad T with h | ⟨a, c, r, h, hc, ha⟩
    · obtain ⟨k1, k2⟩ := while_all h
      exact ⟨T, [], by simp, h, .inl rfl, by unfold refBody; rw [k1, k2]⟩
    · obtain ⟨k1, k2⟩ := while_app r ha hc
      exact ⟨a, c :: r, h, ha, .inr ⟨c, r, rfl, hc⟩, by rw [h]; unfold refBody; rw [k1, k2]⟩
  have hMc : ∀ x ∈ M, isDig x = true ∨ x = 46 := fun x hx => okC_iff.1 (hMc0 x hx)
  have hTl : T.length ≤ 40 := by omega
  have hMT : M.length + R.length = T.length := by rw [hMR]; simp
  obtain ⟨m, hm⟩ : ∃ m, m = M.length := ⟨_, rfl⟩
  have hTM : ∀ i, i < m → T[i]? = M[i]? := fun i hi => by rw [hMR, List.getElem?_append_left (by omega)]
  have hend : m = T.length ∨ (∃ c, T[m]? = some c ∧ m + 1 ≤ T.length ∧ okC c = false) := by
    rcases hR with hR | ⟨c, x, hR, hc⟩
    · left; rw [hR] at hMT; simp at hMT; omega
    · right
      refine ⟨c, ?_, ?_, hc⟩
      · rw [hMR, hR, hm, List.getElem?_append_right (Nat.le_refl _)]; simp
      · rw [hR] at hMT; simp at hMT; omega
  have hmT0 : m ≤ T.length := by omega
  have ex1 : (⟨T.toArray⟩ : ByteArray).extract m T.length = ⟨R.toArray⟩ := by
    rw [bytes_drop _ _ _ rfl, hMR, hm]; congr 2; simp
  have CX : Hid (∀ wr, Calls Tryz.prog 75 #[.string ⟨R.toArray⟩] wr (RexpGot (rexp R) wr)) := Lib.hid fun wr => ref_exponent_gen wr R (by omega)
  have CG : Hid (∀ wr, Calls Tryz.prog 31 #[.string ⟨S.toArray⟩] wr (fun e w' => ∃ g, e = .returned (.tuple #[.agg #[.bool false, .slice none 0 0, .slice (some ⟨g, 0, none⟩) 1 1], .bool false]) ∧ Below wr.heap.size wr w')) := Lib.hid fun wr => by
    refine (ref_Get wr S (by omega)).mono ?_
    rintro e w' ⟨v, bb, rfl, hb, (⟨rfl, _, g, rfl⟩ | ⟨_, h, _⟩)⟩
    · exact ⟨g, rfl, hb⟩
    · exact absurd h hnog
  have HFIN : Hid (litSt (M.take m) = ((litSt M).1, (litSt M).2.1, (litSt M).2.2.1, (litSt M).2.2.2)) := Lib.hid (by rw [hm, List.take_length])
  have hbeh := litSt_behind M m (by omega)
  rw [hm, List.take_length] at hbeh
  obtain ⟨n, hn⟩ : ∃ n, n = (litSt M).1 := ⟨_, rfl⟩
  obtain ⟨dl, hdl⟩ : ∃ dl, dl = (litSt M).2.1 := ⟨_, rfl⟩
  obtain ⟨pt0, hpt⟩ : ∃ pt0, pt0 = (litSt M).2.2.1 := ⟨_, rfl⟩
  obtain ⟨bl, hbl⟩ : ∃ bl, bl = (litSt M).2.2.2 := ⟨_, rfl⟩
  rw [← hn, ← hdl, ← hpt, ← hbl] at HFIN hB0
  rw [← hdl, ← hpt, ← hbl] at hbeh
  have HBP : Hid (pt0 ≤ 1 → bl ≤ dl) := Lib.hid fun h => Nat.le_trans hbeh (by
    have := Nat.mul_le_mul_right dl h
    omega)
  have HB : Hid (((dl = 0 ∨ 1 < pt0) → refBody T = none) ∧ (¬ (dl = 0 ∨ 1 < pt0) → refBody T = ((rexp R).map fun e => (n, e - (bl : Int)) : Option (Nat × Int)))) := Lib.hid ⟨fun h => by rw [hB0, if_pos h], fun h => by rw [hB0, if_neg h]⟩
  have HMC := Lib.hid hMc
  have HMB : Hid (∀ i, i ≤ m → (litSt (M.take i)).1 < 10 ^ 40 ∧ (litSt (M.take i)).2.1 ≤ 40 ∧ (litSt (M.take i)).2.2.1 ≤ 40 ∧ (litSt (M.take i)).2.2.2 ≤ 1600) := Lib.hid fun i hi => by
    obtain ⟨b1, b2, b3, b4⟩ := litSt_bound M hMc i (by omega)
    refine ⟨Nat.lt_of_lt_of_le b1 (Nat.pow_le_pow_right (by omega) (by omega)), by omega, by omega, Nat.le_trans b4 ?_⟩
    exact Nat.le_trans (Nat.mul_le_mul (by omega : i ≤ 40) (by omega : M.length ≤ 40)) (by omega)
  have HTM := Lib.hid hTM
  have HEND := Lib.hid hend
  have hm40 : m ≤ 40 := by omega
  have hSl : (S.length : Int) ≤ 40 := by omega
  obtain ⟨w0, hw0⟩ : ∃ w0, w0 = w.alloc (.cells #[.bool false, .slice none 0 0, .slice none 0 0] 27) := ⟨_, rfl⟩
  have r1 : Row w0 w.heap.size 27 #[.bool false, .slice none 0 0, .slice none 0 0] := by rw [hw0]; exact Row.new _ _ _
  have b0 : Below w.heap.size w w0 := by rw [hw0]; exact (Below.refl _ _).alloc (Nat.le_refl _) _
  have hsz : (Tryz.prog.info? 27).map (·.size) = some 3 := by kernel_rfl
  have R1 := Lib.hid r1; have W0 := Lib.hid hw0
  have hcases : (T = S ∧ S = [] ∧ neg = false) ∨ (T = S ∧ neg = false ∧ S.isEmpty = false ∧ ∃ g0 : 0 < (⟨S.toArray⟩ : ByteArray).size, ((((⟨S.toArray⟩ : ByteArray)[0]'g0).toNat : Int) == 43) = false ∧ ((((⟨S.toArray⟩ : ByteArray)[0]'g0).toNat : Int) == 45) = false) ∨
      (S.isEmpty = false ∧ 1 ≤ S.length ∧ (⟨S.toArray⟩ : ByteArray).extract 1 S.length = ⟨T.toArray⟩ ∧ ∃ g0 : 0 < (⟨S.toArray⟩ : ByteArray).size, ((((⟨S.toArray⟩ : ByteArray)[0]'g0).toNat : Int) == 43) = (!neg) ∧ ((((⟨S.toArray⟩ : ByteArray)[0]'g0).toNat : Int) == 45) = neg) := by
    cases hsg : sg
    · obtain ⟨a1, a2, a3⟩ := hs0 hsg
      rcases a3 with a3 | ⟨g0, a3, a4, a5⟩
      · exact .inl ⟨a1, a3, a2⟩
      · exact .inr (.inl ⟨a1, a2, a3, g0, a4, a5⟩)
    · exact .inr (.inr (hs1 hsg))
  clear r1 hw0 hT hneg hs0 hs1 hTl0 hMR hMc0 hR hB0 hMc hMT hTM hend hn hdl hpt hbl hm hnog hbeh
  obtain ⟨ng, hng⟩ : ∃ ng, ng = neg := ⟨_, rfl⟩
  have HNG := Lib.hid hng
  clear hng
  rcases hcases with ⟨hTS, hS, rfl⟩ | ⟨hTS, rfl, hSe, g0, gb43, gb45⟩ | ⟨hSe, hS0, hs2, g0, gb43, gb45⟩
  case' inl => have hSe : S.isEmpty = true := (by rw [hS]; rfl)
  case' inl => subst hTS; clear hS
  case' inr.inl => subst hTS
  case' inr.inr => cases neg
  all_goals
    go_enter Tryz.func17, Tryz.ntmps17
    go_wp2_with fail
    rw [← W0.out]
    refine (CG.out _).mono ?_
    rintro e w1 ⟨g1, rfl, hb1⟩
    go_wp2_with fail
  all_goals first
    | (go_quiet (fail)
       go_wp2_with fail)
    | skip
  all_goals
    have hrow1 : Hid (∀ W, Below w1.heap.size w1 W → Row W w.heap.size 27 #[.bool false, .slice none 0 0, .slice none 0 0] ∧ Below w.heap.size w W) := Lib.hid fun W h => by
      have h1 := below_seq hb1 h
      exact ⟨Row.keep R1.out h1, b0.trans (h1.mono b0.size)⟩
    have hb1a : Hid (∀ n, Below w1.heap.size w1 ((w1.alloc (.cells #[.bool false, .slice none 0 0, .slice (some ⟨g1, 0, none⟩) 1 1] 27)).drewN n)) := Lib.hid fun n => Below.drewN_ ((Below.refl _ _).alloc (Nat.le_refl _) _) n
    have hb1b : Below w1.heap.size w1 (w1.alloc (.cells #[.bool false, .slice none 0 0, .slice (some ⟨g1, 0, none⟩) 1 1] 27)) := (Below.refl _ _).alloc (Nat.le_refl _) _
    go_loopw [12, 8, 9, 10, 11] (fun t s d p b wr => ∃ (i nn dg pt bh : Nat), t = .int .i64 i ∧ d = .int .i64 dg ∧ p = .int .i64 pt ∧ b = .int .i64 bh ∧ i ≤ m ∧ Hid (litSt (M.take i) = (nn, dg, pt, bh)) ∧ Hid (RefN wr s nn) ∧ Hid (Row wr w.heap.size 27 #[.bool false, .slice none 0 0, .slice none 0 0]) ∧ Below w.heap.size w wr) (fun t _ _ _ _ _ => m - (intOf t).toNat)
    case atStart => exact ⟨0, 0, 0, 0, 0, rfl, rfl, rfl, rfl, by omega, Lib.hid rfl, Lib.hid (by unfold RefN; rw [tdg_zero]; exact Ints.nil_ _ _), by first | exact Lib.hid (hrow1.out _ hb1b).1 | exact Lib.hid (hrow1.out _ (hb1a.out _)).1, by first | exact (hrow1.out _ hb1b).2 | exact (hrow1.out _ (hb1a.out _)).2⟩
    case round =>
      clear hrow1 hb1a hb1b
      obtain ⟨i, nn, dg, pt, bh, rfl, rfl, rfl, rfl, hi, hst, hs, hrow, hbr⟩ := hrel
      obtain ⟨hn13, hdg, hpt, hbh⟩ : nn < 10 ^ 40 ∧ dg ≤ 40 ∧ pt ≤ 40 ∧ bh ≤ 1600 := by
        have h := HMB.out i hi
        rw [hst.out] at h
        exact h
      have HN13 := Lib.hid hn13
      clear hn13
      by_cases hlt : i < m
      · have hiT0 : i < T.length := by omega
        have hget : i < (⟨T.toArray⟩ : ByteArray).size := by show i < T.toArray.size; simp; omega
        obtain ⟨b, hbe⟩ : ∃ b, b = (⟨T.toArray⟩ : ByteArray)[i]'hget := ⟨_, rfl⟩
        have hLT : T[i]? = some b := by rw [hbe, List.getElem?_eq_getElem (by omega)]; rfl
        obtain ⟨x, hxe⟩ : ∃ x : Nat, x = b.toNat := ⟨_, rfl⟩
        have hx : ((((⟨T.toArray⟩ : ByteArray)[i]'hget).toNat : Nat) : Int) = (x : Int) := by rw [hxe, hbe]
        have hiT : (i : Int) < (T.length : Int) := by omega
        have hw0 : IntKind.i64.wrap ((i : Int) + 1) = ((i + 1 : Nat) : Int) := by rw [IntKind.wrap_i64]; omega
        clear hbe
        have hLM : M[i]? = some b := by rw [← HTM.out i hlt]; exact hLT
        have hstep := litSt_step hLM
        rw [hst.out] at hstep
        have hbc := HMC.out b (List.mem_of_getElem? hLM)
        unfold litStep at hstep
        by_cases h46 : b = 46
        · rw [if_pos h46] at hstep
          have HST2 := Lib.hid hstep
          have hx46 : ((x : Nat) : Int) = 46 := by rw [hxe, h46]; rfl
          rw [hx46] at hx
          clear hstep hbc h46 hLM hLT hxe hst hx46 HN13
          go_wp2_with fail
          go_roundw
          case rel => exact ⟨i + 1, nn, dg, pt + 1, bh, by go_num, rfl, by go_num, rfl, by omega, HST2, hs, hrow, hbr⟩
          case measure => simp [intOf]; omega
        · rw [if_neg h46] at hstep
          have HST2 := Lib.hid hstep
          have hdig := isDig_iff.1 (hbc.resolve_right h46)
          rw [← hxe] at hdig
          obtain ⟨d, hd⟩ : ∃ d : Nat, d = x - 48 := ⟨_, rfl⟩
          have hd9 : d ≤ 9 := by omega
          have hx1 : 48 ≤ (x : Int) := by omega
          have hx2 : (x : Int) ≤ 57 := by omega
          have hx46 : ((x : Int) == 46) = false := by rw [beq_eq_false_iff_ne]; omega
          have hxd : (x : Int) - 48 = (d : Int) := by omega
          have hdw8 : IntKind.u8.wrap (d : Int) = (d : Int) := by rw [IntKind.wrap_u8']; omega
          have hdw64 : IntKind.i64.wrap (d : Int) = (d : Int) := by rw [IntKind.wrap_i64]; omega
          have HST3 : Hid (litSt (M.take (i + 1)) = (nn * 10 + d, dg + 1, pt, bh + pt)) := Lib.hid (by rw [HST2.out, ← hxe, ← hd])
          have hnl : Hid ((tdg nn).length ≤ 10) := Lib.hid (tdg_len (k := 10) (Nat.lt_of_lt_of_le HN13.out (by decide +kernel)))
          have hnl2 : Hid ((tdg (nn * 10)).length ≤ 11) := Lib.hid (tdg_len (k := 11) (Nat.lt_of_lt_of_le (Nat.mul_lt_mul_of_pos_right HN13.out (by omega)) (by decide +kernel)))
          have CMul : Hid (∀ W y, Below wr.heap.size wr W → RefN W y 10 → Calls Tryz.prog 73 #[u8, y] W (Gives (fun x w' => RefN w' x (nn * 10)) W)) := Lib.hid fun W y h hy => ref_Mul W u8 y nn 10 (hs.out.keep h) hy (Nat.le_trans hnl.out (by omega)) (by rw [tdg_small (by omega) (by omega)]; simp)
          have CTrim : Hid (∀ W g, Row W g 3 #[.int .i64 (d : Int)] → Calls Tryz.prog 74 #[.slice (some ⟨g, 0, none⟩) 1 1] W (Gives (fun x w' => RefN w' x d) W)) := Lib.hid fun W g h => by
            have h1 := ref_trim W (some ⟨g, 0, none⟩) 1 [d] ⟨_, 1, rfl, Nat.le_refl _, fun j hj => ⟨g, 0, rfl, by
              have : j = 0 := by simp at hj; omega
              subst this
              exact h.cell 0⟩⟩ (fun y hy => by simp at hy; omega) (by simp)
            rw [show val 10000 [d] = d by simp [val]] at h1
            exact h1
          have CAdd : Hid (∀ W u v, RefN W u (nn * 10) → RefN W v d → Calls Tryz.prog 72 #[u, v] W (Gives (fun x w' => RefN w' x (nn * 10 + d)) W)) := Lib.hid fun W u v hu hv => ref_Add W u v _ _ hu hv (Nat.le_trans hnl2.out (by omega)) (Nat.le_trans (tdg_len (k := 1) (by omega)) (by omega))
          clear hstep hbc h46 hLM hLT hxe hst HST2 HN13 hdig hd
          go_upto_region 15 with fail
          go_cut [8] (fun z wc => Hid (RefN wc z (nn * 10 + d)) ∧ Below wr.heap.size wr wc)
          case rest =>
            obtain ⟨hz, hbc⟩ := hcut
            have hrow2 := Lib.hid (Row.keep hrow.out hbc)
            clear CMul CTrim CAdd
            go_wp2_with fail
            go_roundw
            case rel => exact ⟨i + 1, nn * 10 + d, dg + 1, pt, bh + pt, by go_num, by go_num, rfl, by go_num, by omega, HST3, hz, hrow2, hbr.trans (hbc.mono hbr.size)⟩
            case measure => simp [intOf]; omega
          refine wp_region_any (by kernel_rfl) ?_
          change wpAny _ _ _ _ _ _ _ (World.drew _)
          obtain ⟨W0, hW0⟩ : ∃ W0, W0 = wr.drew := ⟨_, rfl⟩
          rw [← hW0]
          have hb0 : Below wr.heap.size wr W0 := by rw [hW0]; exact Below.drewN_ (Below.refl _ _) 1
          have HB0 := Lib.hid hb0
          clear hW0 hb0
          refine wpAny_take (i := 0) (v := u8) rfl (by kernel_rfl) (by kernel_rfl) (by kernel_rfl) (fun _ _ _ h => h) (Or.inl ⟨by kernel_rfl, ?_⟩) ?_
          · intro w; go_simp
          refine wpAny_take (i := 3) (v := .string ⟨T.toArray⟩) rfl (by kernel_rfl) (by kernel_rfl) (by kernel_rfl) (fun _ _ _ h => h) (Or.inl ⟨by kernel_rfl, ?_⟩) ?_
          · intro w; go_simp
          refine wpAny_take (i := 4) (v := .int .i64 i) rfl (by kernel_rfl) (by kernel_rfl) (by kernel_rfl) (fun _ _ _ h => h) (Or.inl ⟨by kernel_rfl, ?_⟩) ?_
          · intro w; go_simp
          refine wpAny_take (i := 5) (v := .int .u8 x) rfl (by kernel_rfl) (by kernel_rfl) (by kernel_rfl) (fun _ _ _ h => h) (Or.inl ⟨by kernel_rfl, ?_⟩) ?_
          · intro w; go_simp
          refine wpAny_take (i := 6) (v := .int .u8 (d : Int)) rfl (by kernel_rfl) (by kernel_rfl) (by kernel_rfl) (fun _ _ _ h => h) (Or.inl ⟨by kernel_rfl, ?_⟩) ?_
          · intro w; go_simp
          refine wpAny_take (i := 7) (v := .int .i64 (d : Int)) rfl (by kernel_rfl) (by kernel_rfl) (by kernel_rfl) (fun _ _ _ h => h) (Or.inl ⟨by kernel_rfl, ?_⟩) ?_
          · intro w; go_simp
          refine wpAny_ready (rs := [1, 8]) (by kernel_rfl) (by simp) ?_
          refine AllReady.cons rfl (fun K hK => ?_) (AllReady.cons rfl (fun K hK => ?_) AllReady.nil)
          · go_simp
            obtain ⟨W1, hW1⟩ : ∃ X, X = W0.alloc (.cells #[.int .i64 10] 3) := ⟨_, rfl⟩
            rw [← hW1]
            have b1 : Below W0.heap.size W0 W1 := by rw [hW1]; exact (Below.refl _ _).alloc (Nat.le_refl _) _
            have r1 := Lib.hid (show Row W1 W0.heap.size 3 #[.int .i64 10] by rw [hW1]; exact Row.new _ _ _)
            clear hW1
            refine hK _ _ ?_
            clear hK K
            have B1 := Lib.hid (below_seq HB0.out b1)
            clear b1
            refine wpAny_ready (rs := [2, 8]) (by kernel_rfl) (by simp) ?_
            refine AllReady.cons rfl (fun K hK => ?_) (AllReady.cons rfl (fun K hK => ?_) AllReady.nil)
            · go_simp
              go_at_call 73
              refine (CMul.out W1 _ B1.out (ref_one (d := 10) r1.out (by omega) (by omega))).mono ?_
              rintro e W2 ⟨x2, rfl, hx2, b2⟩
              have HX2 := Lib.hid hx2
              clear hx2
              refine hK _ _ ?_
              clear hK K
              have B2 := Lib.hid (below_seq B1.out b2)
              have r10_2 := Lib.hid (Row.keep r1.out b2)
              clear b2
              refine wpAny_ready (rs := [8]) (by kernel_rfl) (by simp) ?_
              refine AllReady.cons rfl (fun K hK => ?_) AllReady.nil
              · go_simp
                try rw [hxd]
                obtain ⟨W3, hW3⟩ : ∃ X, X = W2.alloc (.cells #[.int .i64 (d : Int)] 3) := ⟨_, rfl⟩
                rw [← hW3]
                have b3 : Below W2.heap.size W2 W3 := by rw [hW3]; exact (Below.refl _ _).alloc (Nat.le_refl _) _
                have r3 := Lib.hid (show Row W3 W2.heap.size 3 #[.int .i64 (d : Int)] by rw [hW3]; exact Row.new _ _ _)
                clear hW3
                refine hK _ _ ?_
                clear hK K
                have B3 := Lib.hid (below_seq B2.out b3)
                have r10_3 := Lib.hid (Row.keep r10_2.out b3)
                have x_3 := Lib.hid (RefN.keep HX2.out b3)
                clear b3
                refine wpAny_ready (rs := [9]) (by kernel_rfl) (by simp) ?_
                refine AllReady.cons rfl (fun K hK => ?_) AllReady.nil
                · go_simp
                  go_at_call 74
                  refine (CTrim.out W3 _ r3.out).mono ?_
                  rintro e W4 ⟨z4, rfl, hz4, b4⟩
                  have HZ4 := Lib.hid hz4
                  clear hz4
                  refine hK _ _ ?_
                  clear hK K
                  have B4 := Lib.hid (below_seq B3.out b4)
                  have r10_4 := Lib.hid (Row.keep r10_3.out b4)
                  have x_4 := Lib.hid (RefN.keep x_3.out b4)
                  have rd_4 := Lib.hid (Row.keep r3.out b4)
                  clear b4
                  refine wpAny_ready (rs := [10]) (by kernel_rfl) (by simp) ?_
                  refine AllReady.cons rfl (fun K hK => ?_) AllReady.nil
                  go_simp
                  go_at_call 72
                  refine (CAdd.out W4 _ _ x_4.out HZ4.out).mono ?_
                  rintro e W5 ⟨y5, rfl, hy5, b5⟩
                  refine hK _ _ ?_
                  clear hK K
                  refine wpAny_take (i := 11) (v := y5) rfl (by kernel_rfl) (by kernel_rfl) (by kernel_rfl) (fun _ _ _ h => h) (Or.inl ⟨by kernel_rfl, ?_⟩) ?_
                  · intro w; go_simp
                  refine wpAny_done (by kernel_rfl) ?_ _
                  go_wp2_with fail
                  go_meet
                  exact ⟨Lib.hid hy5, below_seq B4.out b5⟩
            · go_simp
              try rw [hxd]
              obtain ⟨W6, hW6⟩ : ∃ X, X = W1.alloc (.cells #[.int .i64 (d : Int)] 3) := ⟨_, rfl⟩
              rw [← hW6]
              have b6 : Below W1.heap.size W1 W6 := by rw [hW6]; exact (Below.refl _ _).alloc (Nat.le_refl _) _
              have r6 := Lib.hid (show Row W6 W1.heap.size 3 #[.int .i64 (d : Int)] by rw [hW6]; exact Row.new _ _ _)
              clear hW6
              refine hK _ _ ?_
              clear hK K
              have B6 := Lib.hid (below_seq B1.out b6)
              have r10_6 := Lib.hid (Row.keep r1.out b6)
              clear b6
              refine wpAny_ready (rs := [2]) (by kernel_rfl) (by simp) ?_
              refine AllReady.cons rfl (fun K hK => ?_) AllReady.nil
              · go_simp
                go_at_call 73
                refine (CMul.out W6 _ B6.out (ref_one (d := 10) r10_6.out (by omega) (by omega))).mono ?_
                rintro e W7 ⟨x7, rfl, hx7, b7⟩
                have HX7 := Lib.hid hx7
                clear hx7
                refine hK _ _ ?_
                clear hK K
                have B7 := Lib.hid (below_seq B6.out b7)
                have r10_7 := Lib.hid (Row.keep r10_6.out b7)
                have rd_7 := Lib.hid (Row.keep r6.out b7)
                clear b7
                refine wpAny_ready (rs := [9]) (by kernel_rfl) (by simp) ?_
                refine AllReady.cons rfl (fun K hK => ?_) AllReady.nil
                · go_simp
                  go_at_call 74
                  refine (CTrim.out W7 _ rd_7.out).mono ?_
                  rintro e W8 ⟨z8, rfl, hz8, b8⟩
                  have HZ8 := Lib.hid hz8
                  clear hz8
                  refine hK _ _ ?_
                  clear hK K
                  have B8 := Lib.hid (below_seq B7.out b8)
                  have r10_8 := Lib.hid (Row.keep r10_7.out b8)
                  have rd_8 := Lib.hid (Row.keep rd_7.out b8)
                  have x_8 := Lib.hid (RefN.keep HX7.out b8)
                  clear b8
                  refine wpAny_ready (rs := [10]) (by kernel_rfl) (by simp) ?_
                  refine AllReady.cons rfl (fun K hK => ?_) AllReady.nil
                  go_simp
                  go_at_call 72
                  refine (CAdd.out W8 _ _ x_8.out HZ8.out).mono ?_
                  rintro e W9 ⟨y9, rfl, hy9, b9⟩
                  refine hK _ _ ?_
                  clear hK K
                  refine wpAny_take (i := 11) (v := y9) rfl (by kernel_rfl) (by kernel_rfl) (by kernel_rfl) (fun _ _ _ h => h) (Or.inl ⟨by kernel_rfl, ?_⟩) ?_
                  · intro w; go_simp
                  refine wpAny_done (by kernel_rfl) ?_ _
                  go_wp2_with fail
                  go_meet
                  exact ⟨Lib.hid hy9, below_seq B8.out b9⟩
          · go_simp
            try rw [hxd]
            obtain ⟨W10, hW10⟩ : ∃ X, X = W0.alloc (.cells #[.int .i64 (d : Int)] 3) := ⟨_, rfl⟩
            rw [← hW10]
            have b10 : Below W0.heap.size W0 W10 := by rw [hW10]; exact (Below.refl _ _).alloc (Nat.le_refl _) _
            have r10 := Lib.hid (show Row W10 W0.heap.size 3 #[.int .i64 (d : Int)] by rw [hW10]; exact Row.new _ _ _)
            clear hW10
            refine hK _ _ ?_
            clear hK K
            have B10 := Lib.hid (below_seq HB0.out b10)
            clear b10
            refine wpAny_ready (rs := [1]) (by kernel_rfl) (by simp) ?_
            refine AllReady.cons rfl (fun K hK => ?_) AllReady.nil
            · go_simp
              obtain ⟨W11, hW11⟩ : ∃ X, X = W10.alloc (.cells #[.int .i64 10] 3) := ⟨_, rfl⟩
              rw [← hW11]
              have b11 : Below W10.heap.size W10 W11 := by rw [hW11]; exact (Below.refl _ _).alloc (Nat.le_refl _) _
              have r11 := Lib.hid (show Row W11 W10.heap.size 3 #[.int .i64 10] by rw [hW11]; exact Row.new _ _ _)
              clear hW11
              refine hK _ _ ?_
              clear hK K
              have B11 := Lib.hid (below_seq B10.out b11)
              have rd_11 := Lib.hid (Row.keep r10.out b11)
              clear b11
              refine wpAny_ready (rs := [2]) (by kernel_rfl) (by simp) ?_
              refine AllReady.cons rfl (fun K hK => ?_) AllReady.nil
              · go_simp
                go_at_call 73
                refine (CMul.out W11 _ B11.out (ref_one (d := 10) r11.out (by omega) (by omega))).mono ?_
                rintro e W12 ⟨x12, rfl, hx12, b12⟩
                have HX12 := Lib.hid hx12
                clear hx12
                refine hK _ _ ?_
                clear hK K
                have B12 := Lib.hid (below_seq B11.out b12)
                have rd_12 := Lib.hid (Row.keep rd_11.out b12)
                have r10_12 := Lib.hid (Row.keep r11.out b12)
                clear b12
                refine wpAny_ready (rs := [9]) (by kernel_rfl) (by simp) ?_
                refine AllReady.cons rfl (fun K hK => ?_) AllReady.nil
                · go_simp
                  go_at_call 74
                  refine (CTrim.out W12 _ rd_12.out).mono ?_
                  rintro e W13 ⟨z13, rfl, hz13, b13⟩
                  have HZ13 := Lib.hid hz13
                  clear hz13
                  refine hK _ _ ?_
                  clear hK K
                  have B13 := Lib.hid (below_seq B12.out b13)
                  have rd_13 := Lib.hid (Row.keep rd_12.out b13)
                  have r10_13 := Lib.hid (Row.keep r10_12.out b13)
                  have x_13 := Lib.hid (RefN.keep HX12.out b13)
                  clear b13
                  refine wpAny_ready (rs := [10]) (by kernel_rfl) (by simp) ?_
                  refine AllReady.cons rfl (fun K hK => ?_) AllReady.nil
                  go_simp
                  go_at_call 72
                  refine (CAdd.out W13 _ _ x_13.out HZ13.out).mono ?_
                  rintro e W14 ⟨y14, rfl, hy14, b14⟩
                  refine hK _ _ ?_
                  clear hK K
                  refine wpAny_take (i := 11) (v := y14) rfl (by kernel_rfl) (by kernel_rfl) (by kernel_rfl) (fun _ _ _ h => h) (Or.inl ⟨by kernel_rfl, ?_⟩) ?_
                  · intro w; go_simp
                  refine wpAny_done (by kernel_rfl) ?_ _
                  go_wp2_with fail
                  go_meet
                  exact ⟨Lib.hid hy14, below_seq B13.out b14⟩
      · obtain rfl : i = m := by omega
        have hfin := hst.out.symm.trans HFIN.out
        simp only [Prod.mk.injEq] at hfin
        obtain ⟨rfl, rfl, rfl, rfl⟩ := hfin
        have hend2 : (¬ ((i : Int) < (T.length : Int))) ∨ ((i : Int) < (T.length : Int) ∧ i + 1 ≤ T.length ∧ ∃ (hget : i < (⟨T.toArray⟩ : ByteArray).size) (x : Nat), ((((⟨T.toArray⟩ : ByteArray)[i]'hget).toNat : Nat) : Int) = (x : Int) ∧ ((x : Int) == 46) = false ∧ (¬ (48 : Int) ≤ (x : Int) ∨ ((48 : Int) ≤ (x : Int) ∧ ¬ (x : Int) ≤ 57))) := by
          rcases HEND.out with h | ⟨c, hTc, hmT, hcb⟩
          · left; omega
          · right
            have hget : i < (⟨T.toArray⟩ : ByteArray).size := by show i < T.toArray.size; simp; omega
            have hbe : (⟨T.toArray⟩ : ByteArray)[i]'hget = c := by
              rw [List.getElem?_eq_getElem (by omega)] at hTc
              exact Option.some.inj hTc
            have hno : ¬ (isDig c = true ∨ c = 46) := fun h => by rw [okC_iff.2 h] at hcb; cases hcb
            have h46 : c.toNat ≠ 46 := fun h => hno (.inr (UInt8.toNat_inj.1 h))
            have hdg : ¬ (48 ≤ c.toNat ∧ c.toNat ≤ 57) := fun h => hno (.inl (isDig_iff.2 h))
            exact ⟨by omega, by omega, hget, c.toNat, by rw [hbe], by rw [beq_eq_false_iff_ne]; omega, by omega⟩
        clear HEND HTM HMC HMB HFIN hst hlt
        rcases hend2 with hiT | ⟨hiT, hmT, hget, x, hx, hx46, hx48 | ⟨hx48, hx57⟩⟩
        all_goals
          by_cases hbad : dg = 0 ∨ 1 < pt
          · have hnone : Hid (refBody T = none) := Lib.hid (HB.out.1 hbad)
            have hbb : ((dg : Int) == 0) = true ∨ (((dg : Int) == 0) = false ∧ (1 : Int) < (pt : Int)) := by
              by_cases h : dg = 0
              · left; rw [beq_iff_eq]; omega
              · right; exact ⟨by rw [beq_eq_false_iff_ne]; omega, by omega⟩
            clear HB HBP hbad CX hs HN13 ex1
            rcases hbb with hb0 | ⟨hb0, hb1⟩
            all_goals
              go_wp2_with fail
              go_at_call 32
              refine (ref_Zero wr).mono ?_
              rintro e w5 ⟨g5, rfl, _, hb5⟩
              have hrow5 := Row.keep hrow.out hb5
              have B5 := hbr.trans (hb5.mono hbr.size)
              obtain ⟨w9, hw9, hrow9, hb9, q0, q1, q2, f0, f1, f2⟩ := qput (.bool false) (.slice none 0 0) (.slice (some ⟨g5, 0, none⟩) 1 1) hrow5 B5 (Nat.le_refl _)
              have HW9 := Lib.hid hw9; have HR9 := Lib.hid hrow9
              clear hw9 hrow9 hrow5 B5
              go_wp2_with fail
              rw [← HW9.out]
              refine bodyPost_ret (res_get w9 w.heap.size _ (.bool false) HR9.out rfl _ Tryz.results17 _ (by simp [go_sem]) (by simp [go_sem])) rfl ?_
              exact .inl ⟨hnone.out, _, rfl, hb9⟩
          · have hdl0 : ((dg : Int) == 0) = false := by rw [beq_eq_false_iff_ne]; omega
            have hpt2 : ¬ (1 : Int) < (pt : Int) := by omega
            have hbh40 : bh ≤ 40 := Nat.le_trans (HBP.out (by omega)) hdg
            have hsome := HB.out.2 hbad
            have HSM := Lib.hid hsome
            clear hsome HB HBP hbad
            go_wp2_with fail
            go_at_call 75
            refine (CX.out _).mono ?_
            rintro e w2 (⟨ex, hex, rfl, hb2⟩ | ⟨hex, k0, rfl, hb2⟩)
            · obtain ⟨hexb1, hexb2⟩ := rexp_bound hex
              obtain ⟨p, hp⟩ : ∃ p : Int, p = ex - (bh : Int) := ⟨_, rfl⟩
              have HOK : Hid (refBody T = some (nn, p)) := Lib.hid (by rw [HSM.out, hex, hp]; rfl)
              have hpw : IntKind.i64.wrap (ex - (bh : Int)) = p := by rw [IntKind.wrap_i64]; omega
              have hps : ex - (bh : Int) = p := hp.symm
              have hp1 : -140 ≤ p := by omega
              have hp2 : p ≤ 100 := by omega
              have HX1 : True := trivial
              have HN40 : Hid (nn < 10 ^ 40) := HN13
              clear hp hex HSM hdl0 hpt2 hdg hpt hbh hbh40 ex1
              try clear hx46
              try clear hx48
              try clear hx57
              try clear hx
              obtain ⟨w3, hw3⟩ : ∃ w3, w3 = w2.alloc (.cells #[.int .i64 1] 3) := ⟨_, rfl⟩
              have h23 : Below w2.heap.size w2 w3 := by rw [hw3]; exact (Below.refl _ _).alloc (Nat.le_refl _) _
              have hone3 : RefN w3 (.slice (some ⟨w2.heap.size, 0, none⟩) 1 1) 1 := ref_one (d := 1) (by rw [hw3]; exact Row.new _ _ _) (by omega) (by omega)
              have b23 := below_seq hb2 h23
              have CF0 := ref_Frac w3 ng _ _ nn 1 (hs.out.keep b23) hone3
              obtain ⟨bs, hbs⟩ : ∃ bs, bs = (ng && decide (nn ≠ 0)) := ⟨_, rfl⟩
              rw [← hbs, HNG.out] at CF0
              rw [HNG.out] at hbs
              have CF := Lib.hid CF0
              clear CF0
              have HBS := Lib.hid hbs
              have HW3 := Lib.hid hw3
              have hrow3 := Lib.hid (Row.keep hrow.out b23)
              have B3 := hbr.trans (b23.mono hbr.size)
              clear hone3 hw3 hbs hb2 h23 b23 hs hrow hbr
              go_wp2_with fail
              rw [← HW3.out]
              go_at_call 76
              refine CF.out.mono ?_
              rintro e w4 ⟨v4, rfl, hv4, hb4⟩
              obtain ⟨A1, c1, A2, c2, rfl, hx4, hy4, hs4⟩ := hv4.open_
              rw [show (tdg 1).length = 1 by rw [tdg_one]; rfl] at hy4 ⊢
              obtain ⟨m1, hm1⟩ : ∃ m1, m1 = (tdg nn).length := ⟨_, rfl⟩
              rw [← hm1] at hx4 ⊢
              have hb5 : Below w4.heap.size w4 (w4.alloc (.cells #[.bool bs, .slice A1 m1 c1, .slice A2 1 c2] 27)) := (Below.refl _ _).alloc (Nat.le_refl _) _
              have hrow5 := Lib.hid (Row.keep (Row.keep hrow3.out hb4) hb5)
              have hg5 := Lib.hid (Row.new w4 27 #[.bool bs, .slice A1 m1 c1, .slice A2 1 c2])
              have hx5 := Lib.hid (RefN.keep hx4 hb5)
              have hy5 := Lib.hid (RefN.keep hy4 hb5)
              have B5 := B3.trans ((below_seq hb4 hb5).mono B3.size)
              have hgp : w.heap.size < w4.heap.size := Nat.lt_of_lt_of_le (Row.lt hrow3.out) hb4.size
              have HGP := Lib.hid hgp
              obtain ⟨P, hP⟩ : ∃ P, P = p.toNat := ⟨_, rfl⟩
              obtain ⟨P2, hP2⟩ : ∃ P2, P2 = (-p).toNat := ⟨_, rfl⟩
              have HS4 := Lib.hid hs4
              clear hm1 hs4 hx4 hy4 hv4 hb4 hb5 hrow3 B3 CF HW3 hgp HX1
              go_wp2_with fail
              go_loopw [16] (fun t wr => ∃ (j : Nat) (A : Option Addr) (m1 cc : Nat), t = .int .i64 (p - (j : Int)) ∧ j ≤ P ∧ Hid (RefN wr (.slice A m1 cc) (nn * 10 ^ j)) ∧ Hid (RefN wr (.slice A2 1 c2) 1) ∧ Hid (Row wr w4.heap.size 27 #[.bool bs, .slice A m1 cc, .slice A2 1 c2]) ∧ Hid (Row wr w.heap.size 27 #[.bool false, .slice none 0 0, .slice none 0 0]) ∧ Below w.heap.size w wr) (fun t _ => (intOf t).toNat)
              case atStart => exact ⟨0, A1, m1, c1, congrArg (Value.int IntKind.i64) (by omega), by omega, Lib.hid (by rw [Nat.pow_zero, Nat.mul_one]; exact hx5.out), hy5, hg5, hrow5, B5⟩
              case round =>
                clear hx5 hy5 hg5 hrow5 B5
                obtain ⟨j, A, m1, cc, rfl, hj, hx, hy, hg, hrow, hbr⟩ := hrel
                have g0 := hg.out.cell 0; have g1 := hg.out.cell 1; have g2 := hg.out.cell 2
                by_cases hlt : j < P
                · have hpos : (0 : Int) < p - (j : Int) := by omega
                  obtain ⟨w8, hw8⟩ : ∃ w8, w8 = wr.alloc (.cells #[.int .i64 10] 3) := ⟨_, rfl⟩
                  have h68 : Below wr.heap.size wr w8 := by rw [hw8]; exact (Below.refl _ _).alloc (Nat.le_refl _) _
                  have hten : RefN w8 (.slice (some ⟨wr.heap.size, 0, none⟩) 1 1) 10 := ref_one (d := 10) (by rw [hw8]; exact Row.new _ _ _) (by omega) (by omega)
                  have CM := Lib.hid (ref_Mul w8 _ _ (nn * 10 ^ j) 10 (hx.out.keep h68) hten (Nat.le_trans (tdg_p40 HN40.out (by omega)) (by omega)) (by rw [tdg_small (by omega) (by omega)]; simp))
                  have HW8 := Lib.hid hw8
                  clear hten hw8
                  go_wp2_with fail
                  rw [← HW8.out]
                  go_at_call 73
                  refine CM.out.mono ?_
                  rintro e w9 ⟨x9, rfl, hx9, hb9⟩
                  obtain ⟨A9, c9, rfl, h9⟩ := hx9.open_
                  obtain ⟨m9, hm9⟩ : ∃ m9, m9 = (tdg (nn * 10 ^ j * 10)).length := ⟨_, rfl⟩
                  rw [← hm9] at hx9 ⊢
                  have y9 := below_seq h68 hb9
                  have hg9 := Row.keep hg.out y9
                  have hr9 := Row.keep hrow.out y9
                  have B9 := hbr.trans (y9.mono hbr.size)
                  obtain ⟨e1, e2, e3, e4⟩ := qstepA hg9 B9 (Nat.le_of_lt HGP.out) hx9 (hy.out.keep y9)
                  rw [show nn * 10 ^ j * 10 = nn * 10 ^ (j + 1) by rw [Nat.pow_succ, Nat.mul_assoc]] at e2
                  have E1 := Lib.hid e1; have E2 := Lib.hid e2; have E3 := Lib.hid e3
                  have E5 := Lib.hid (hr9.far (p := ⟨w4.heap.size, 1, none⟩) (by have := HGP.out; show w.heap.size ≠ w4.heap.size; omega) (.slice A9 m9 c9))
                  have q1 := hg9.cell 1; have f1 := hg9.free 1
                  clear e1 e2 e3 hg9 hr9 B9 hx9 h9 hm9 y9 CM HW8 hx hy hg hrow g0 g1 g2
                  go_wp2_with fail
                  go_roundw
                  case rel => exact ⟨j + 1, A9, m9, c9, congrArg (Value.int IntKind.i64) (by omega), by omega, E2, E3, E1, E5, e4⟩
                  case measure => simp [intOf]; omega
                · obtain rfl : j = P := by omega
                  have hpos : ¬ (0 : Int) < p - (j : Int) := by omega
                  clear hlt g0 g1 g2
                  go_wp2_with fail
                  go_loopw [17] (fun t wr => ∃ (i : Nat) (A2 : Option Addr) (m2 c2 : Nat), t = .int .i64 (p + (i : Int)) ∧ i ≤ P2 ∧ Hid (RefN wr (.slice A m1 cc) (nn * 10 ^ j)) ∧ Hid (RefN wr (.slice A2 m2 c2) (10 ^ i)) ∧ Hid (Row wr w4.heap.size 27 #[.bool bs, .slice A m1 cc, .slice A2 m2 c2]) ∧ Hid (Row wr w.heap.size 27 #[.bool false, .slice none 0 0, .slice none 0 0]) ∧ Below w.heap.size w wr) (fun t _ => (-(intOf t)).toNat)
                  case atStart => exact ⟨0, A2, 1, c2, congrArg (Value.int IntKind.i64) (by omega), by omega, hx, hy, hg, hrow, hbr⟩
                  case round =>
                    clear hx hy hg hrow hbr hpos
                    obtain ⟨i, A2, m2, c2, rfl, hi, hx, hy, hg, hrow, hbr⟩ := hrel
                    have g0 := hg.out.cell 0; have g1 := hg.out.cell 1; have g2 := hg.out.cell 2
                    by_cases hlt : i < P2
                    · have hpos : p + (i : Int) < 0 := by omega
                      obtain ⟨w8, hw8⟩ : ∃ w8, w8 = wr.alloc (.cells #[.int .i64 10] 3) := ⟨_, rfl⟩
                      have h68 : Below wr.heap.size wr w8 := by rw [hw8]; exact (Below.refl _ _).alloc (Nat.le_refl _) _
                      have hten : RefN w8 (.slice (some ⟨wr.heap.size, 0, none⟩) 1 1) 10 := ref_one (d := 10) (by rw [hw8]; exact Row.new _ _ _) (by omega) (by omega)
                      have hl40 : (tdg (10 ^ i)).length ≤ 45 := by have h := tdg_p40 (n := 1) (q := i) (by omega) (by omega); rwa [Nat.one_mul] at h
                      have CM := Lib.hid (ref_Mul w8 _ _ (10 ^ i) 10 (hy.out.keep h68) hten (Nat.le_trans hl40 (by omega)) (by rw [tdg_small (by omega) (by omega)]; simp))
                      have HW8 := Lib.hid hw8
                      clear hten hw8 hl40
                      go_wp2_with fail
                      rw [← HW8.out]
                      go_at_call 73
                      refine CM.out.mono ?_
                      rintro e w9 ⟨x9, rfl, hx9, hb9⟩
                      obtain ⟨A9, c9, rfl, h9⟩ := hx9.open_
                      obtain ⟨m9, hm9⟩ : ∃ m9, m9 = (tdg (10 ^ i * 10)).length := ⟨_, rfl⟩
                      rw [← hm9] at hx9 ⊢
                      have y9 := below_seq h68 hb9
                      have hg9 := Row.keep hg.out y9
                      have hr9 := Row.keep hrow.out y9
                      have B9 := hbr.trans (y9.mono hbr.size)
                      obtain ⟨e1, e2, e3, e4⟩ := qstepB hg9 B9 (Nat.le_of_lt HGP.out) (hx.out.keep y9) hx9
                      rw [← Nat.pow_succ] at e3
                      have E1 := Lib.hid e1; have E2 := Lib.hid e2; have E3 := Lib.hid e3
                      have E5 := Lib.hid (hr9.far (p := ⟨w4.heap.size, 2, none⟩) (by have := HGP.out; show w.heap.size ≠ w4.heap.size; omega) (.slice A9 m9 c9))
                      have q1 := hg9.cell 2; have f1 := hg9.free 2
                      clear e1 e2 e3 hg9 hr9 B9 hx9 h9 hm9 y9 CM HW8 hx hy hg hrow g0 g1 g2
                      go_wp2_with fail
                      go_roundw
                      case rel => exact ⟨i + 1, A9, m9, c9, congrArg (Value.int IntKind.i64) (by omega), by omega, E2, E3, E1, E5, e4⟩
                      case measure => simp [intOf]; omega
                    · obtain rfl : i = P2 := by omega
                      have hpos : ¬ p + (i : Int) < 0 := by omega
                      have hne : bs = true → nn * 10 ^ j ≠ 0 := fun h => Nat.mul_ne_zero (HS4.out h) (Nat.ne_of_gt (Nat.pow_pos (by omega)))
                      obtain ⟨w9, hw9, hrow9, hq9, hb9, q0, q1, q2, f0, f1, f2⟩ := qyes hrow.out hbr (Nat.le_refl _) hg.out hx.out hy.out hne
                      have HW9 := Lib.hid hw9; have HR9 := Lib.hid hrow9; have HQ9 := Lib.hid hq9
                      clear hw9 hrow9 hq9 hlt hne
                      go_wp2_with fail
                      rw [← HW9.out]
                      refine bodyPost_ret (res_get w9 w.heap.size _ (.bool true) HR9.out rfl _ Tryz.results17 _ (by simp [go_sem]) (by simp [go_sem])) rfl ?_
                      have h := HQ9.out
                      rw [hP, hP2] at h
                      have hb := HBS.out
                      refine .inr ⟨_, p, HOK.out, HN40.out, hp1, hp2, _, rfl, ?_, hb9⟩
                      first
                        | (rw [← hb]; exact h)
                        | (simp only [Bool.true_and, Bool.false_and, ne_eq, decide_not] at hb ⊢; rw [← hb]; exact h)
                        | (simp only [Bool.true_and, Bool.false_and] at hb; subst hb; exact h)
            · have hnone : Hid (refBody T = none) := Lib.hid (by rw [HSM.out, hex]; rfl)
              have hrow2 := Row.keep hrow.out hb2
              have B2 := hbr.trans (hb2.mono hbr.size)
              clear HSM hex CX hs hrow HN13 ex1
              go_wp2_with fail
              go_at_call 32
              refine (ref_Zero w2).mono ?_
              rintro e w5 ⟨g5, rfl, _, hb5⟩
              have hrow5 := Row.keep hrow2 hb5
              have B5 := B2.trans (hb5.mono B2.size)
              obtain ⟨w9, hw9, hrow9, hb9, q0, q1, q2, f0, f1, f2⟩ := qput (.bool false) (.slice none 0 0) (.slice (some ⟨g5, 0, none⟩) 1 1) hrow5 B5 (Nat.le_refl _)
              have HW9 := Lib.hid hw9; have HR9 := Lib.hid hrow9
              clear hw9 hrow9 hrow5 B5 hrow2 B2
              go_wp2_with fail
              rw [← HW9.out]
              refine bodyPost_ret (res_get w9 w.heap.size _ (.bool false) HR9.out rfl _ Tryz.results17 _ (by simp [go_sem]) (by simp [go_sem])) rfl ?_
              exact .inl ⟨hnone.out, _, rfl, hb9⟩

end Go.Proofs.YthephiihcgibjaaGreatDoor
