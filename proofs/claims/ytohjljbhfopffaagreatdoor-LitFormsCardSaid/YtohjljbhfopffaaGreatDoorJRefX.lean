/- Package victuallerref1: what stands behind the digits of a literal. -/
import Derived.Test.YtohjljbhfopffaaGreatDoorJWalkJ
import Derived.Test.YtohjljbhfopffaaGreatDoorJFormLaw
import Derived.Deep.QuietTactic
import Derived.BigQuiet
set_option linter.unusedVariables false
set_option linter.unusedSimpArgs false
namespace Go.Proofs.YtohjljbhfopffaaGreatDoor
open Go.RowKit Vic

set_option maxRecDepth 100000 in
set_option maxHeartbeats 4000000 in
theorem ref_exponent (w : World) (c : UInt8) (hc : c = 101 ∨ c = 69) (en : Bool) (n : Nat) (hn : n ≤ 100) (hz : en = true → n ≠ 0) :
    Calls Tryz.prog 88 #[.string ⟨(c :: sgnT en (Lib.decDigits n)).toArray⟩] w (Keeps (.tuple #[.int .i64 (sgn en n), .bool true]) w) := by
  have hdl : (Lib.decDigits n).length ≤ 3 := dec_len (k := 2) (by omega)
  have hdg := dec_isDig n
  have hnum := numOf_dec n
  obtain ⟨D, hD⟩ : ∃ D, D = Lib.decDigits n := ⟨_, rfl⟩
  have hDne : D ≠ [] := by rw [hD]; exact dec_ne n
  rw [← hD] at hdl hdg hnum ⊢
  obtain ⟨X, hX⟩ : ∃ X, X = sgnT en D := ⟨_, rfl⟩
  obtain ⟨T, hT⟩ : ∃ T, T = c :: X := ⟨_, rfl⟩
  have hXl : X.length ≤ 4 := by rw [hX]; unfold sgnT; cases en <;> simp <;> omega
  have hTl : T.length ≤ 5 := by rw [hT]; simp; omega
  have hT0 : 0 < T.length := by rw [hT]; simp
  have hX0 : 0 < X.length := by
    rw [hX]; unfold sgnT
    have : 0 < D.length := List.length_pos_iff.2 hDne
    cases en <;> simp <;> omega
  have hD0 : 0 < D.length := List.length_pos_iff.2 hDne
  have hDe : D.isEmpty = false := by
    rcases D with _ | ⟨x, y⟩
    · exact absurd rfl hDne
    · rfl
  have hXe : X.isEmpty = false := by
    rcases X with _ | ⟨x, y⟩
    · simp at hX0
    · rfl
  have hTe : T.isEmpty = false := by rw [hT]; rfl
  have hsl : (⟨T.toArray⟩ : ByteArray).extract 1 T.length = ⟨X.toArray⟩ := by rw [bytes_drop _ _ _ rfl, hT]; rfl
  obtain ⟨h0, hb⟩ : ∃ h0 : 0 < (⟨T.toArray⟩ : ByteArray).size, (((⟨T.toArray⟩ : ByteArray)[0]'h0).toNat : Int) = (c.toNat : Int) := by
    subst hT
    exact ⟨by show 0 < (c :: X).toArray.size; simp, rfl⟩
  rw [← hX, ← hT]
  clear hT
  -- the byte that begins what follows
  obtain ⟨g0, gb43, gb45⟩ : ∃ g0 : 0 < (⟨X.toArray⟩ : ByteArray).size, ((((⟨X.toArray⟩ : ByteArray)[0]'g0).toNat : Int) == 43) = false ∧ ((((⟨X.toArray⟩ : ByteArray)[0]'g0).toNat : Int) == 45) = en := by
    rcases D with _ | ⟨d, r⟩
    · exact absurd rfl hDne
    · have hd := isDig_iff.1 (hdg d List.mem_cons_self)
      subst hX
      cases en
      · refine ⟨by show 0 < (d :: r).toArray.size; simp, ?_, ?_⟩
        · show ((d.toNat : Int) == 43) = false
          rw [beq_eq_false_iff_ne]; omega
        · show ((d.toNat : Int) == 45) = false
          rw [beq_eq_false_iff_ne]; omega
      · exact ⟨by show 0 < ((45 : UInt8) :: d :: r).toArray.size; simp, rfl, rfl⟩
  have hsl2 : en = true → (⟨X.toArray⟩ : ByteArray).extract 1 X.length = ⟨D.toArray⟩ := fun h => by
    rw [bytes_drop _ _ _ rfl, hX, h]; rfl
  have hXD : en = false → X = D := fun h => by rw [hX, h]; rfl
  have HDG := Lib.hid hdg; have HNU := Lib.hid hnum; have HN := Lib.hid hn
  have HSG : Hid (sgn en n = if en then -(n : Int) else n) := Lib.hid rfl
  have hn' : (n : Int) ≤ 100 := by omega
  have hcc : ((c.toNat : Nat) : Int) = 101 ∨ ((c.toNat : Nat) : Int) = 69 := by
    rcases hc with rfl | rfl
    · exact .inl rfl
    · exact .inr rfl
  clear hD hDne hdg hnum hn hX hc
  cases en
  case' false =>
    have e := (hXD rfl).symm
    subst e
    clear hsl2
  case' true => have hs2 := hsl2 rfl
  all_goals
    clear hXD hz
    rcases hcc with hc1 | hc1
  all_goals
    rw [hc1] at hb
    clear hc1
    go_enter Tryz.func88, Tryz.ntmps88
    go_wp2_with fail
  all_goals first
    | (go_quiet (fail)
       go_wp2_with fail)
    | skip
  all_goals
    go_loopw [6, 5] (fun t u wr => ∃ (i m : Nat), t = .int .i64 i ∧ u = .int .i64 m ∧ i ≤ D.length ∧ Hid (m = numOf 0 (D.take i)) ∧ m < 1000 ∧ Below w.heap.size w wr) (fun t _ _ => D.length - (intOf t).toNat)
    case atStart => exact ⟨0, 0, rfl, rfl, by omega, Lib.hid rfl, by omega, by first | exact Below.refl _ _ | exact Below.drewN_ (Below.refl _ _) _⟩
    case round =>
      obtain ⟨i, m, rfl, rfl, hi, hm, hm3, hbr⟩ := hrel
      by_cases hlt : i < D.length
      · have hget : i < (⟨D.toArray⟩ : ByteArray).size := by show i < D.toArray.size; simp; omega
        obtain ⟨b, hbe⟩ : ∃ b, b = (⟨D.toArray⟩ : ByteArray)[i]'hget := ⟨_, rfl⟩
        have hLm : D[i]? = some b := by rw [hbe, List.getElem?_eq_getElem (by omega)]; rfl
        have hbd := isDig_iff.1 (HDG.out b (List.mem_of_getElem? hLm))
        obtain ⟨x, hxe⟩ : ∃ x : Nat, x = b.toNat := ⟨_, rfl⟩
        have hx : ((((⟨D.toArray⟩ : ByteArray)[i]'hget).toNat : Nat) : Int) = (x : Int) := by rw [hxe, hbe]
        have hx1 : 48 ≤ x := by omega
        have hx2 : x ≤ 57 := by omega
        have hst : numOf 0 (D.take (i + 1)) = m * 10 + (x - 48) := by
          rw [List.take_succ_eq_append_getElem hlt, numOf_append, ← hm.out, numOf_cons, numOf_nil]
          rw [List.getElem?_eq_getElem hlt] at hLm
          rw [Option.some.inj hLm, hxe]
        have hm4 : numOf 0 (D.take (i + 1)) < 1000 := by
          have h1 := numOf_lt (D.take (i + 1)) (fun c hc => HDG.out c (List.mem_of_mem_take hc))
          rw [List.length_take] at h1
          exact Nat.lt_of_lt_of_le h1 (Nat.le_trans (Nat.pow_le_pow_right (by omega) (show min (i + 1) D.length ≤ 3 by omega)) (by omega))
        have HST := Lib.hid hst
        rw [hst] at hm4
        have hw1 : IntKind.i64.wrap ((m : Int) * 10 + ((x : Int) - 48)) = ((m * 10 + (x - 48) : Nat) : Int) := by rw [IntKind.wrap_i64]; omega
        clear hbe hLm hbd hxe hst
        go_wp2_with fail
        go_roundw
        case rel => exact ⟨i + 1, m * 10 + (x - 48), by go_num, by first | rfl | (congr 1; omega), by omega, Lib.hid HST.out.symm, hm4, hbr⟩
        case measure => simp [intOf]; omega
      · obtain rfl : i = D.length := by omega
        have hmn : m = n := by rw [hm.out, List.take_length]; exact HNU.out
        subst hmn
        go_wp2_with fail
        go_ret2
        exact ⟨by first | rfl | (rw [HSG.out]; rfl), hbr⟩
end Go.Proofs.YtohjljbhfopffaaGreatDoor
