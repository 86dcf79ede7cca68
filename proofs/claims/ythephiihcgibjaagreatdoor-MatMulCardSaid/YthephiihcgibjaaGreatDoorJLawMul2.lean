/- The law MatMul: products of matrices, row by column; turned about. -/
import Derived.Test.YthephiihcgibjaaGreatDoorJLawLaws
import Derived.Test.YthephiihcgibjaaGreatDoorJWalkS
set_option linter.unusedVariables false
set_option linter.unusedSimpArgs false
namespace Vic
open Go Go.RowKit
/-- a variable that holds the document's fraction -/
theorem RefIs.rowq {w w9 : World} {v : Value} {q : Rat} {L b m k : Nat} {ng : Bool} {A B : Option Addr} {c e : Nat} {T : TypeId} (h : RefIs w v q L) (hr : Row w b T #[.bool ng, .slice A m c, .slice B k e]) (hO : Only b w w9) : RefIs w9 v q L := by
  obtain ⟨ng', n, d, ⟨x, y, rfl, h1, h2, h3⟩, h4⟩ := h
  have hcs := qrow_far ng (.slice A m c) (.slice B k e) (fun _ _ h => by cases h) (fun _ _ h => by cases h)
  exact ⟨ng', n, d, ⟨x, y, rfl, Ints.rowfar h1 hr (hcs _) hO, Ints.rowfar h2 hr (hcs _) hO, h3⟩, h4⟩
theorem qput2 {T : TypeId} {w W : World} {b B : Nat} {u0 u1 u2 : Value} (v0 v1 v2 : Value) (hr : Row W b T #[u0, u1, u2]) (hB : Below B w W) (hb : B ≤ b) :
    ∃ w9, w9 = ((W.setCell ⟨b, 0, none⟩ v0).setCell ⟨b, 1, none⟩ v1).setCell ⟨b, 2, none⟩ v2 ∧ Row w9 b T #[v0, v1, v2] ∧ Below B w w9 ∧ Only b W w9 ∧
      W.cell? ⟨b, 0, none⟩ = some u0 ∧ W.cell? ⟨b, 1, none⟩ = some u1 ∧ W.cell? ⟨b, 2, none⟩ = some u2 ∧
      W.frozen? ⟨b, 0, none⟩ = false ∧ W.frozen? ⟨b, 1, none⟩ = false ∧ W.frozen? ⟨b, 2, none⟩ = false := by
  have hO : Only b W (((W.setCell ⟨b, 0, none⟩ v0).setCell ⟨b, 1, none⟩ v1).setCell ⟨b, 2, none⟩ v2) := (((Only.refl _ _).setCell 0 _).setCell 1 _).setCell 2 _
  exact ⟨_, rfl, Row.set (Row.set (Row.set hr 0 v0) 1 v1) 2 v2, hB.trans (hO.below hb), hO, hr.cell 0, hr.cell 1, hr.cell 2, hr.free 0, hr.free 1, hr.free 2⟩
/-- the document's fraction q behind a pointer, in a block that is known whole -/
def RefVar (T : TypeId) (w : World) (b : Nat) (q : Rat) (L : Nat) : Prop := ∃ ng A m c B k e, Row w b T #[.bool ng, .slice A m c, .slice B k e] ∧ RefIs w (.agg #[.bool ng, .slice A m c, .slice B k e]) q L
theorem RefVar.keep {T : TypeId} {w w' : World} {b : Nat} {q : Rat} {L : Nat} (h : RefVar T w b q L) (hb : Below w.heap.size w w') : RefVar T w' b q L := by
  obtain ⟨ng, A, m, c, B, k, e, h1, h2⟩ := h
  exact ⟨ng, A, m, c, B, k, e, h1.keep hb, h2.keep hb⟩
end Vic
namespace Go.Proofs.YthephiihcgibjaaGreatDoor
open Go.RowKit Vic
abbrev vmul26_0 : Oper := { dst := some 146, op := Go.Op.load 27 (Go.Operand.tmp 24), type := 27, pos := "law.go:430", after := #[], guard := none }
abbrev vmul26_1 : Oper := { dst := some 147, op := Go.Op.load 27 (Go.Operand.tmp 26), type := 27, pos := "law.go:430", after := #[], guard := none }
abbrev vmul26_2 : Oper := { dst := some 148, op := Go.Op.load 27 (Go.Operand.tmp 28), type := 27, pos := "law.go:430", after := #[], guard := none }
abbrev vmul26_3 : Oper := { dst := some 149, op := Go.Op.call { callee := Go.Callee.value (Go.Operand.func 35), args := #[Go.Operand.tmp 147, Go.Operand.tmp 148], argTypes := #[27, 27] }, type := 27, pos := "law.go:430", after := #[{ on := 1, ground := Go.Ground.data }, { on := 2, ground := Go.Ground.data }], guard := none }
abbrev vmul26_4 : Oper := { dst := some 150, op := Go.Op.call { callee := Go.Callee.value (Go.Operand.func 34), args := #[Go.Operand.tmp 146, Go.Operand.tmp 149], argTypes := #[27, 27] }, type := 27, pos := "law.go:430", after := #[{ on := 0, ground := Go.Ground.data }, { on := 3, ground := Go.Ground.data }, { on := 3, ground := Go.Ground.chain }], guard := none }
abbrev vmul26_5 : Oper := { dst := none, op := Go.Op.store 27 (Go.Operand.tmp 24) (Go.Operand.tmp 150), type := 0, pos := "law.go:430", after := #[{ on := 4, ground := Go.Ground.data }, { on := 4, ground := Go.Ground.chain }, { on := 0, ground := Go.Ground.phase }, { on := 1, ground := Go.Ground.phase }, { on := 2, ground := Go.Ground.phase }, { on := 3, ground := Go.Ground.phase }, { on := 4, ground := Go.Ground.phase }], guard := none }
abbrev vmul27_0 : Oper := { dst := some 151, op := Go.Op.move (Go.Operand.tmp 18), type := 51, pos := "law.go:432", after := #[], guard := none }
abbrev vmul27_1 : Oper := { dst := some 152, op := Go.Op.move (Go.Operand.tmp 22), type := 3, pos := "law.go:432", after := #[], guard := none }
abbrev vmul27_2 : Oper := { dst := some 153, op := Go.Op.move (Go.Operand.tmp 23), type := 3, pos := "law.go:432", after := #[], guard := none }
abbrev vmul27_3 : Oper := { dst := some 154, op := Go.Op.call { callee := Go.Callee.value (Go.Operand.func 45), args := #[Go.Operand.tmp 151, Go.Operand.tmp 152, Go.Operand.tmp 153], argTypes := #[51, 3, 3] }, type := 31, pos := "law.go:432", after := #[{ on := 0, ground := Go.Ground.data }, { on := 1, ground := Go.Ground.data }, { on := 2, ground := Go.Ground.data }], guard := none }
abbrev vmul27_4 : Oper := { dst := some 155, op := Go.Op.call { callee := Go.Callee.value (Go.Operand.func 18), args := #[Go.Operand.tmp 154], argTypes := #[31] }, type := 9, pos := "law.go:432", after := #[{ on := 3, ground := Go.Ground.data }, { on := 3, ground := Go.Ground.chain }], guard := none }
abbrev vmul27_5 : Oper := { dst := some 156, op := Go.Op.load 27 (Go.Operand.tmp 24), type := 27, pos := "law.go:432", after := #[], guard := none }
abbrev vmul27_6 : Oper := { dst := some 157, op := Go.Op.call { callee := Go.Callee.value (Go.Operand.func 15), args := #[Go.Operand.tmp 156], argTypes := #[27] }, type := 9, pos := "law.go:432", after := #[{ on := 5, ground := Go.Ground.data }, { on := 4, ground := Go.Ground.chain }], guard := none }
abbrev vmul27_7 : Oper := { dst := some 158, op := Go.Op.binOp Go.BinOp.neq 9 (Go.Operand.tmp 155) (Go.Operand.tmp 157) 9, type := 4, pos := "law.go:432", after := #[{ on := 4, ground := Go.Ground.data }, { on := 6, ground := Go.Ground.data }], guard := none }
abbrev vmul27_8 : Oper := { dst := some 159, op := Go.Op.move (Go.Operand.tmp 158), type := 4, pos := "law.go:432", after := #[{ on := 7, ground := Go.Ground.data }, { on := 6, ground := Go.Ground.chain }], guard := none }
abbrev vmul27_9 : Oper := { dst := some 160, op := Go.Op.move (Go.Operand.tmp 18), type := 51, pos := "law.go:432", after := #[{ on := 8, ground := Go.Ground.guard }], guard := some (8, false) }
abbrev vmul27_10 : Oper := { dst := some 161, op := Go.Op.call { callee := Go.Callee.value (Go.Operand.func 46), args := #[Go.Operand.tmp 160], argTypes := #[51] }, type := 51, pos := "law.go:432", after := #[{ on := 9, ground := Go.Ground.data }, { on := 8, ground := Go.Ground.chain }, { on := 8, ground := Go.Ground.guard }], guard := some (8, false) }
abbrev vmul27_11 : Oper := { dst := some 162, op := Go.Op.move (Go.Operand.tmp 23), type := 3, pos := "law.go:432", after := #[{ on := 8, ground := Go.Ground.guard }], guard := some (8, false) }
abbrev vmul27_12 : Oper := { dst := some 163, op := Go.Op.move (Go.Operand.tmp 22), type := 3, pos := "law.go:432", after := #[{ on := 8, ground := Go.Ground.guard }], guard := some (8, false) }
abbrev vmul27_13 : Oper := { dst := some 164, op := Go.Op.call { callee := Go.Callee.value (Go.Operand.func 45), args := #[Go.Operand.tmp 161, Go.Operand.tmp 162, Go.Operand.tmp 163], argTypes := #[51, 3, 3] }, type := 31, pos := "law.go:432", after := #[{ on := 10, ground := Go.Ground.data }, { on := 11, ground := Go.Ground.data }, { on := 12, ground := Go.Ground.data }, { on := 10, ground := Go.Ground.chain }, { on := 8, ground := Go.Ground.guard }], guard := some (8, false) }
abbrev vmul27_14 : Oper := { dst := some 165, op := Go.Op.call { callee := Go.Callee.value (Go.Operand.func 18), args := #[Go.Operand.tmp 164], argTypes := #[31] }, type := 9, pos := "law.go:432", after := #[{ on := 13, ground := Go.Ground.data }, { on := 13, ground := Go.Ground.chain }, { on := 8, ground := Go.Ground.guard }], guard := some (8, false) }
abbrev vmul27_15 : Oper := { dst := some 166, op := Go.Op.load 27 (Go.Operand.tmp 24), type := 27, pos := "law.go:432", after := #[{ on := 8, ground := Go.Ground.guard }], guard := some (8, false) }
abbrev vmul27_16 : Oper := { dst := some 167, op := Go.Op.call { callee := Go.Callee.value (Go.Operand.func 15), args := #[Go.Operand.tmp 166], argTypes := #[27] }, type := 9, pos := "law.go:432", after := #[{ on := 15, ground := Go.Ground.data }, { on := 14, ground := Go.Ground.chain }, { on := 8, ground := Go.Ground.guard }], guard := some (8, false) }
abbrev vmul27_17 : Oper := { dst := some 168, op := Go.Op.binOp Go.BinOp.neq 9 (Go.Operand.tmp 165) (Go.Operand.tmp 167) 9, type := 4, pos := "law.go:432", after := #[{ on := 14, ground := Go.Ground.data }, { on := 16, ground := Go.Ground.data }, { on := 8, ground := Go.Ground.guard }], guard := some (8, false) }
abbrev vmul27_18 : Oper := { dst := some 169, op := Go.Op.pick (Go.Operand.tmp 159) (Go.Operand.const (Go.Value.bool true)) (Go.Operand.tmp 168), type := 4, pos := "law.go:432", after := #[{ on := 8, ground := Go.Ground.data }, { on := 17, ground := Go.Ground.data }], guard := none }
set_option maxRecDepth 100000 in
set_option maxHeartbeats 16000000 in
theorem law_MatMul (w : World) (ht : Tab w) (a b c : Int) (va vb : Value) (us vs : List (List UInt8)) (hA : StrsArg w va us) (hB : StrsArg w vb vs) (hus : us.length ≤ 9223372036854775807) (hvs : vs.length ≤ 9223372036854775807) (hub : ∀ y ∈ us, y.length ≤ 9223372036854775807) (hvb : ∀ y ∈ vs, y.length ≤ 9223372036854775807)
    (ha1 : -9223372036854775808 ≤ a) (ha2 : a ≤ 9223372036854775807) (hb1 : -9223372036854775808 ≤ b) (hb2 : b ≤ 9223372036854775807) (hc1 : -9223372036854775808 ≤ c) (hc2 : c ≤ 9223372036854775807) :
    Calls Tryz.prog 9 #[.int .i64 a, .int .i64 b, .int .i64 c, va, vb] w (Keeps (.bool true) w) := by
  obtain ⟨rr, hrr⟩ : ∃ r, a.tmod 4 = r := ⟨_, rfl⟩
  obtain ⟨r, mr, hmr, hor, h0r, h1r⟩ : ∃ n m : Nat, (rr + 4).tmod 4 = (m : Int) ∧ (1 : Int) + (m : Int) = (n : Int) ∧ 0 < n ∧ n ≤ 4 := by
    have a1 := Int.lt_tmod_of_pos a (show (0 : Int) < 4 by omega)
    have a2 := Int.tmod_lt_of_pos a (show (0 : Int) < 4 by omega)
    have a3 := Int.tmod_nonneg (a := rr + 4) 4 (by omega)
    have a4 := Int.tmod_lt_of_pos (rr + 4) (show (0 : Int) < 4 by omega)
    exact ⟨1 + ((rr + 4).tmod 4).toNat, ((rr + 4).tmod 4).toNat, by omega, by omega, by omega, by omega⟩
  have hlr : -3 ≤ rr ∧ rr ≤ 3 := by
    have a1 := Int.lt_tmod_of_pos a (show (0 : Int) < 4 by omega)
    have a2 := Int.tmod_lt_of_pos a (show (0 : Int) < 4 by omega)
    omega
  obtain ⟨rn, hrn⟩ : ∃ r, b.tmod 4 = r := ⟨_, rfl⟩
  obtain ⟨n, mn, hmn, hon, h0n, h1n⟩ : ∃ n m : Nat, (rn + 4).tmod 4 = (m : Int) ∧ (1 : Int) + (m : Int) = (n : Int) ∧ 0 < n ∧ n ≤ 4 := by
    have a1 := Int.lt_tmod_of_pos b (show (0 : Int) < 4 by omega)
    have a2 := Int.tmod_lt_of_pos b (show (0 : Int) < 4 by omega)
    have a3 := Int.tmod_nonneg (a := rn + 4) 4 (by omega)
    have a4 := Int.tmod_lt_of_pos (rn + 4) (show (0 : Int) < 4 by omega)
    exact ⟨1 + ((rn + 4).tmod 4).toNat, ((rn + 4).tmod 4).toNat, by omega, by omega, by omega, by omega⟩
  have hln : -3 ≤ rn ∧ rn ≤ 3 := by
    have a1 := Int.lt_tmod_of_pos b (show (0 : Int) < 4 by omega)
    have a2 := Int.tmod_lt_of_pos b (show (0 : Int) < 4 by omega)
    omega
  obtain ⟨rs, hrs⟩ : ∃ r, c.tmod 4 = r := ⟨_, rfl⟩
  obtain ⟨s, ms, hms, hos, h0s, h1s⟩ : ∃ n m : Nat, (rs + 4).tmod 4 = (m : Int) ∧ (1 : Int) + (m : Int) = (n : Int) ∧ 0 < n ∧ n ≤ 4 := by
    have a1 := Int.lt_tmod_of_pos c (show (0 : Int) < 4 by omega)
    have a2 := Int.tmod_lt_of_pos c (show (0 : Int) < 4 by omega)
    have a3 := Int.tmod_nonneg (a := rs + 4) 4 (by omega)
    have a4 := Int.tmod_lt_of_pos (rs + 4) (show (0 : Int) < 4 by omega)
    exact ⟨1 + ((rs + 4).tmod 4).toNat, ((rs + 4).tmod 4).toNat, by omega, by omega, by omega, by omega⟩
  have hls : -3 ≤ rs ∧ rs ≤ 3 := by
    have a1 := Int.lt_tmod_of_pos c (show (0 : Int) < 4 by omega)
    have a2 := Int.tmod_lt_of_pos c (show (0 : Int) < 4 by omega)
    omega
  have CB := Lib.hid (law_begun w ht)
  have HT := Lib.hid ht
  have CMA : Hid (∀ W, Below w.heap.size w W → Calls Tryz.prog 24 #[.int .i64 r, .int .i64 n, va] W (TextsMade r n W)) := Lib.hid fun W h => law_matrix W r n va us (hA.keep h) hus hub (by omega) h0r (by omega) h0n
  have CMB : Hid (∀ W, Below w.heap.size w W → Calls Tryz.prog 24 #[.int .i64 n, .int .i64 s, vb] W (TextsMade n s W)) := Lib.hid fun W h => law_matrix W n s vb vs (hB.keep h) hvs hvb (by omega) h0n (by omega) h0s
  obtain ⟨A1, n1, q1, rfl⟩ : ∃ A n c, va = .slice A n c := by obtain ⟨A, c, h, _⟩ := hA; exact ⟨_, _, _, h⟩
  obtain ⟨A2, n2, q2, rfl⟩ : ∃ A n c, vb = .slice A n c := by obtain ⟨A, c, h, _⟩ := hB; exact ⟨_, _, _, h⟩
  clear hA hB hus hvs hub hvb ht
  go_enter Tryz.func9, Tryz.ntmps9
  go_wp2_with fail
  refine CB.out.mono ?_
  rintro e w1 ⟨rfl, hb1'⟩
  have CM1 := Lib.hid (CMA.out w1 hb1')
  clear CB CMA
  go_wp2_with fail
  go_at_call 24
  refine CM1.out.mono ?_
  rintro e w2 ⟨sx, cx, tbx, tcx, tx, rfl, hcx, hox, htcx, hxx, hgx, hb2'⟩
  have B2 := below_seq hb1' hb2'
  have CM2 := Lib.hid (CMB.out w2 B2)
  have HOX := Lib.hid hox; have HXX := Lib.hid hxx; have HGX := Lib.hid hgx; have HTX := Lib.hid htcx
  clear hox hxx hgx CM1 CMB htcx
  go_wp2_with fail
  go_at_call 24
  refine CM2.out.mono ?_
  rintro e w3 ⟨sy, cy, tby, tcy, ty, rfl, hcy, hoy, htcy, hxy, hgy, hb3'⟩
  have B3 := below_seq B2 hb3'
  have HOY := Lib.hid hoy; have HXY := Lib.hid hxy; have HGY := Lib.hid hgy; have HTY := Lib.hid htcy
  clear hoy hxy hgy CM2 htcy
  obtain ⟨MX, hMX⟩ : ∃ M : Mtx, M = fun i j => fracOf (tx i j) := ⟨_, rfl⟩
  obtain ⟨MY, hMY⟩ : ∃ M : Mtx, M = fun i j => fracOf (ty i j) := ⟨_, rfl⟩
  have HFX : Hid (FitsM 2000 r n MX) := Lib.hid fun i j hi hj => by rw [hMX]; exact good_fits (HGX.out i j hi hj).1
  have HFY : Hid (FitsM 2000 n s MY) := Lib.hid fun i j hi hj => by rw [hMY]; exact good_fits (HGY.out i j hi hj).1
  have CNX0 := mat_New_all w3 sx 0 r n cx tbx (fun _ => 0) tcx tx (fun i hi => cell_keep (HOX.out i hi) hb3') (fun i j hi hj => cell_keep (HXX.out i j hi hj) hb3') (fun i j hi hj => ⟨(HGX.out i j hi hj).1, Nat.le_trans (HGX.out i j hi hj).2 (by omega)⟩) (HT.out.keep B3) (by omega) h0r (by omega) h0n hcx HTX.out
  rw [← hMX] at CNX0
  have CNX := Lib.hid CNX0
  have CNY : Hid (∀ W, Below w3.heap.size w3 W → Calls Tryz.prog 25 #[.slice (some ⟨sy, 0, none⟩) n cy] W (MatMade 31 n s MY W)) := Lib.hid fun W h => by
    have := mat_New_all W sy 0 n s cy tby (fun _ => 0) tcy ty (fun i hi => cell_keep (HOY.out i hi) h) (fun i j hi hj => cell_keep (HXY.out i j hi hj) h) (fun i j hi hj => ⟨(HGY.out i j hi hj).1, Nat.le_trans (HGY.out i j hi hj).2 (by omega)⟩) (HT.out.keep (below_seq B3 h)) (by omega) h0n (by omega) h0s hcy HTY.out
    rw [← hMY] at this
    exact this
  have HMX : Hid (∀ i j, MX i j = fracOf (tx i j)) := Lib.hid fun i j => by rw [hMX]
  have HMY : Hid (∀ i j, MY i j = fracOf (ty i j)) := Lib.hid fun i j => by rw [hMY]
  clear CNX0 hMX hMY
  go_wp2_with fail
  go_at_call 25
  refine CNX.out.mono ?_
  rintro e w4 h4
  obtain ⟨m1, rfl, hm1, hb4⟩ := h4.read
  have HM1 := Lib.hid hm1
  clear h4 hm1 CNX
  go_wp2_with fail
  go_at_call 25
  refine (CNY.out _ hb4).mono ?_
  rintro e w5 h5
  obtain ⟨m2, rfl, hm2, hb5⟩ := h5.read
  have z5 := below_seq hb4 hb5
  have HM1' : Hid (∀ W, Below w5.heap.size w5 W → MatR W (.pointer (some ⟨m1, 0, none⟩)) r n MX) := Lib.hid fun W h => HM1.out.keep (below_seq hb5 h)
  have HM2 : Hid (∀ W, Below w5.heap.size w5 W → MatR W (.pointer (some ⟨m2, 0, none⟩)) n s MY) := Lib.hid fun W h => hm2.keep h
  have CP := Lib.hid (mat_Mul w5 _ _ r n s 2000 MX MY (HM1'.out _ (Below.refl _ _)) (HM2.out _ (Below.refl _ _)) HFX.out HFY.out h0r h0n h0s (by omega) (by omega) (by omega) (by omega))
  clear h5 hm2 CNY HM1
  go_wp2_with fail
  go_at_call 43
  refine CP.out.mono ?_
  rintro e w6 ⟨pz, rfl, hpz, hb6⟩
  obtain ⟨pb, rfl⟩ := hpz.shape
  have z6 := below_seq z5 hb6
  have HP : Hid (∀ W, Below w6.heap.size w6 W → MatR W (.pointer (some ⟨pb, 0, none⟩)) r s (mulM n MX MY)) := Lib.hid fun W h => hpz.keep h
  have HFP : Hid (∀ i k, i < r → k < s → Fits 16006 (mulM n MX MY i k)) := Lib.hid fun i k hi hk => (fits_sigma (fun j hj => HFX.out i j hi hj) (fun j hj => HFY.out j k hj hk)).mono (by have := Nat.mul_le_mul_right (2 * 2000 + 1) h1n; omega)
  obtain ⟨P, hP⟩ : ∃ P, P = mulM n MX MY := ⟨_, rfl⟩
  rw [← hP] at HP HFP
  have HPE := Lib.hid hP
  have CSZ : Hid (Calls Tryz.prog 44 #[.pointer (some ⟨pb, 0, none⟩)] w6 (fun e w' => e = .returned (.tuple #[.int .i64 r, .int .i64 s]) ∧ ∃ n, w' = w6.drewN n)) := Lib.hid (by
    obtain ⟨mb, G, GO, cc, e1, e2, e3, e4, e5⟩ := HP.out w6 (Below.refl _ _)
    injection e1 with e1; injection e1 with e1; injection e1 with e1
    subst e1
    exact mat_Size w6 pb G GO r s cc e2 e4)
  have A1 : Hid (∀ W, Below w6.heap.size w6 W → Calls Tryz.prog 45 #[.pointer (some ⟨pb, 0, none⟩), .int .i64 r, .int .i64 0] W (Keeps (.pointer none) W)) := Lib.hid fun W h => mat_At_no W _ r s r 0 P (HP.out W h) (.inr (.inl (Int.le_refl _))) (by omega) (by omega)
  have A2' : Hid (∀ W, Below w6.heap.size w6 W → Calls Tryz.prog 45 #[.pointer (some ⟨pb, 0, none⟩), .int .i64 0, .int .i64 (-1)] W (Keeps (.pointer none) W)) := Lib.hid fun W h => mat_At_no W _ r s 0 (-1) P (HP.out W h) (.inr (.inr (.inl (by omega)))) (by omega) (by omega)
  clear CP hpz hP
  go_wp2_with fail
  go_at_call 44
  refine CSZ.out.mono ?_
  rintro e w7 ⟨rfl, nd, rfl⟩
  obtain ⟨w8, hw8⟩ : ∃ X, X = w6.drewN nd := ⟨_, rfl⟩
  have h68 : Below w6.heap.size w6 w8 := by rw [hw8]; exact Vic.Below.drewN_ (Below.refl _ _) _
  rw [← hw8]
  clear hw8 CSZ
  go_wp2_with fail
  go_at_call 45
  refine (A1.out _ h68).mono ?_
  rintro e w9 ⟨rfl, hb9⟩
  have h69 := below_seq h68 hb9
  go_wp2_with fail
  go_at_call 45
  refine (A2'.out _ h69).mono ?_
  rintro e w10 ⟨rfl, hb10⟩
  have h610 := below_seq h69 hb10
  have z10 := below_seq z6 h610
  have ZW : Hid (∀ W, Below w10.heap.size w10 W → Below w.heap.size w W) := Lib.hid fun W h => below_seq (below_seq B3 z10) h
  have K3 : Hid (∀ W, Below w10.heap.size w10 W → Below w3.heap.size w3 W) := Lib.hid fun W h => below_seq z10 h
  have K6 : Hid (∀ W, Below w10.heap.size w10 W → Below w6.heap.size w6 W) := Lib.hid fun W h => below_seq h610 h
  have K5 : Hid (∀ W, Below w10.heap.size w10 W → Below w5.heap.size w5 W) := Lib.hid fun W h => below_seq hb6 (below_seq h610 h)
  have KX : Hid (∀ i, i < r → w3.cell? ⟨sx, 0 + i, none⟩ = some (.slice (some ⟨tbx i, 0, none⟩) n (tcx i))) := Lib.hid fun i hi => cell_keep (HOX.out i hi) hb3'
  have KXX : Hid (∀ i j, i < r → j < n → w3.cell? ⟨tbx i, 0 + j, none⟩ = some (.string ⟨(tx i j).toArray⟩)) := Lib.hid fun i j hi hj => cell_keep (HXX.out i j hi hj) hb3'
  clear A1 A2' h68 hb9 h69 hb10 h610 z10 z6 z5 hb4 hb5 hb6 B2 B3 hb1' hb2' hb3' HOX HXX
  go_wp2_with fail
  go_loopw [22] (fun t wx => ∃ j : Nat, t = .int .i64 j ∧ j ≤ r ∧ Below w10.heap.size w10 wx) (fun t _ => r - (intOf t).toNat)
  case atStart => exact ⟨0, rfl, Nat.zero_le _, Below.refl _ _⟩
  case round =>
    obtain ⟨i, rfl, hi, hbx⟩ := hrel
    by_cases hir : i < r
    · have hir' := Int.ofNat_lt.2 hir
      go_wp2_with fail
      go_loopw [23] (fun t wy => ∃ m : Nat, t = .int .i64 m ∧ m ≤ s ∧ Below w10.heap.size w10 wy) (fun t _ => s - (intOf t).toNat)
      case atStart => exact ⟨0, rfl, Nat.zero_le _, hbx⟩
      case round =>
        obtain ⟨k, rfl, hk, hby⟩ := hrel
        by_cases hks : k < s
        · have hks' := Int.ofNat_lt.2 hks
          obtain ⟨W, hW⟩ : ∃ X, X = wr := ⟨_, rfl⟩
          subst wr
          go_wp2_with fail
          go_at_call 32
          refine (refq_Zero W).mono ?_
          rintro e wz ⟨xz, rfl, hxz, hbz⟩
          obtain ⟨ng0, A0, m0, c0, D0, k0, e0, rfl⟩ := hxz.shape
          obtain ⟨wg, hwg⟩ : ∃ X, X = wz.alloc (.cells #[.bool ng0, .slice A0 m0 c0, .slice D0 k0 e0] 27) := ⟨_, rfl⟩
          have hzg : Below wz.heap.size wz wg := by rw [hwg]; exact (Below.refl _ _).alloc (Nat.le_refl _) _
          have hRg : Row wg wz.heap.size 27 #[.bool ng0, .slice A0 m0 c0, .slice D0 k0 e0] := by rw [hwg]; exact Row.new _ _ _
          have hVg : Hid (RefVar 27 wg wz.heap.size (sigma 0 fun j => MX i j * MY j k) (0 * 1201 + 1)) := Lib.hid ⟨_, _, _, _, _, _, _, hRg, hxz.keep hzg⟩
          have hWg := below_seq hbz hzg
          have hg0 : W.heap.size ≤ wz.heap.size := hbz.size
          have HWG := Lib.hid hwg
          clear hwg hxz hRg
          go_upto_region 21 with fail
          rw [← HWG.out]
          go_wp2_with fail
          go_loopw [25] (fun t wx => ∃ j : Nat, t = .int .i64 j ∧ j ≤ n ∧ Hid (RefVar 27 wx wz.heap.size (sigma j fun j => MX i j * MY j k) (j * 1201 + 1)) ∧ Below W.heap.size W wx) (fun t _ => n - (intOf t).toNat)
          case atStart => exact ⟨0, rfl, Nat.zero_le _, hVg, hWg⟩
          case round =>
            clear hVg hWg HWG
            obtain ⟨j, rfl, hj, hvar, hbw⟩ := hrel
            have hB10 := below_seq hby hbw
            by_cases hjn : j < n
            · have hjn' := Int.ofNat_lt.2 hjn
              have q3 := K3.out _ hB10
              have c1 := cell_keep (KX.out i hir) q3
              have c2 := cell_keep (KXX.out i j hir hjn) q3
              have c3 := cell_keep (HOY.out j hjn) q3
              have c4 := cell_keep (HXY.out j k hjn hks) q3
              rw [Nat.zero_add] at c1 c2 c3 c4
              have tc1 := HTX.out i hir
              have tc2 := HTY.out j hjn
              have hgx := (HGX.out i j hir hjn)
              have hgy := (HGY.out j k hjn hks)
              have G1 : Hid (∀ W, Calls Tryz.prog 31 #[.string ⟨(tx i j).toArray⟩] W (RefGotQ (tx i j) W)) := Lib.hid fun W => ref_Get W _ (Nat.le_trans hgx.2 (by omega))
              have G2 : Hid (∀ W, Calls Tryz.prog 31 #[.string ⟨(ty j k).toArray⟩] W (RefGotQ (ty j k) W)) := Lib.hid fun W => ref_Get W _ (Nat.le_trans hgy.2 (by omega))
              have HGX' := Lib.hid hgx.1; have HGY' := Lib.hid hgy.1
              have EX := HMX.out i j; have EY := HMY.out j k
              obtain ⟨x1, hx1⟩ : ∃ x, x = tx i j := ⟨_, rfl⟩
              obtain ⟨y1, hy1⟩ : ∃ y, y = ty j k := ⟨_, rfl⟩
              rw [← hx1] at c2 G1 HGX' EX
              rw [← hy1] at c4 G2 HGY' EY
              have HEX := Lib.hid EX; have HEY := Lib.hid EY
              clear hgx hgy hx1 hy1 q3 EX EY
              go_wp2_with fail
              go_at_call 31
              refine (G1.out _).mono ?_
              rintro e wu hgot
              obtain ⟨xv, rfl, hxv, hbu⟩ := refq_got hgot HGX'.out
              obtain ⟨ng1, A1', m1', c1', D1, k1, e1, rfl⟩ := hxv.shape
              obtain ⟨wv, hwv⟩ : ∃ X, X = wu.alloc (.cells #[.bool ng1, .slice A1' m1' c1', .slice D1 k1 e1] 27) := ⟨_, rfl⟩
              have huv : Below wu.heap.size wu wv := by rw [hwv]; exact (Below.refl _ _).alloc (Nat.le_refl _) _
              have hRv : Row wv wu.heap.size 27 #[.bool ng1, .slice A1' m1' c1', .slice D1 k1 e1] := by rw [hwv]; exact Row.new _ _ _
              have HXV : Hid (RefIs wv (.agg #[.bool ng1, .slice A1' m1' c1', .slice D1 k1 e1]) (MX i j) 600) := Lib.hid (by rw [HEX.out]; exact hxv.keep huv)
              have y1' := below_seq hbu huv
              have c3' := cell_keep c3 y1'
              have c4' := cell_keep c4 y1'
              have HWV := Lib.hid hwv
              clear hgot hxv hwv G1
              go_upto_region 25 with fail
              rw [← HWV.out]
              go_wp2_with fail
              go_at_call 31
              refine (G2.out _).mono ?_
              rintro e wu2 hgot
              obtain ⟨yv, rfl, hyv, hbu2⟩ := refq_got hgot HGY'.out
              obtain ⟨ng2, A2x, m2x, c2x, D2, k2, e2, rfl⟩ := hyv.shape
              obtain ⟨wv2, hwv2⟩ : ∃ X, X = wu2.alloc (.cells #[.bool ng2, .slice A2x m2x c2x, .slice D2 k2 e2] 27) := ⟨_, rfl⟩
              have huv2 : Below wu2.heap.size wu2 wv2 := by rw [hwv2]; exact (Below.refl _ _).alloc (Nat.le_refl _) _
              have hRv2 : Row wv2 wu2.heap.size 27 #[.bool ng2, .slice A2x m2x c2x, .slice D2 k2 e2] := by rw [hwv2]; exact Row.new _ _ _
              have HYV : Hid (RefIs wv2 (.agg #[.bool ng2, .slice A2x m2x c2x, .slice D2 k2 e2]) (MY j k) 600) := Lib.hid (by rw [HEY.out]; exact hyv.keep huv2)
              have y2' := below_seq hbu2 huv2
              have hRv' := hRv.keep y2'
              have HXV2 := Lib.hid (HXV.out.keep y2')
              obtain ⟨ng3, A3, m3, c3x, D3, k3, e3, hR3, hI3⟩ := hvar.out.keep (below_seq y1' y2')
              have HS : Hid (Row wv2 wz.heap.size 27 #[.bool ng3, .slice A3 m3 c3x, .slice D3 k3 e3] ∧ RefIs wv2 (.agg #[.bool ng3, .slice A3 m3 c3x, .slice D3 k3 e3]) (sigma j fun j => MX i j * MY j k) (j * 1201 + 1)) := Lib.hid ⟨hR3, hI3⟩
              have hlt1 : wz.heap.size < wu.heap.size := Nat.lt_of_lt_of_le (hvar.out.choose_spec.choose_spec.choose_spec.choose_spec.choose_spec.choose_spec.choose_spec.1.lt) hbu.size
              have hlt2 : wz.heap.size < wu2.heap.size := Nat.lt_of_lt_of_le hlt1 (Nat.le_trans huv.size hbu2.size)
              have hbw2 : Below W.heap.size W wv2 := below_seq hbw (below_seq y1' y2')
              have RV := Lib.hid hRv'; have RV2 := Lib.hid hRv2
              have HQ : Hid (∀ X : World, (∀ b, b ≠ wz.heap.size → b < wv2.heap.size → X.heap[b]? = wv2.heap[b]?) → (X.cell? ⟨wu.heap.size, 0, none⟩ = some (.bool ng1) ∧ X.cell? ⟨wu.heap.size, 1, none⟩ = some (.slice A1' m1' c1') ∧ X.cell? ⟨wu.heap.size, 2, none⟩ = some (.slice D1 k1 e1)) ∧ (X.cell? ⟨wu2.heap.size, 0, none⟩ = some (.bool ng2) ∧ X.cell? ⟨wu2.heap.size, 1, none⟩ = some (.slice A2x m2x c2x) ∧ X.cell? ⟨wu2.heap.size, 2, none⟩ = some (.slice D2 k2 e2))) := Lib.hid fun X h => by
                have p1 : Row X wu.heap.size 27 #[.bool ng1, .slice A1' m1' c1', .slice D1 k1 e1] := (h _ (by omega) RV.out.lt).trans RV.out
                have p2 : Row X wu2.heap.size 27 #[.bool ng2, .slice A2x m2x c2x, .slice D2 k2 e2] := (h _ (by omega) RV2.out.lt).trans RV2.out
                exact ⟨⟨p1.cell 0, p1.cell 1, p1.cell 2⟩, p2.cell 0, p2.cell 1, p2.cell 2⟩
              have HWV2 := Lib.hid hwv2
              have hjL : j * 1201 + 1 ≤ 5000 := by omega
              clear hgot hyv hwv2 G2 hRv hRv' hRv2 hR3 hI3 hvar HXV c1 c2 c3 c4 c3' c4' HWV hbu huv hbu2 huv2 y1' y2' hbw hB10
              go_upto_region 26 with fail
              rw [← HWV2.out]
              clear HWV2
              refine wp_region_held (S := fun X : World => ∀ b, b ≠ wz.heap.size → b < wv2.heap.size → X.heap[b]? = wv2.heap[b]?) (by kernel_rfl) ?_
              change wpAnyH _ _ _ _ _ _ _ _ (World.drew _)
              obtain ⟨X0, hX0⟩ : ∃ X, X = (wv2).drew := ⟨_, rfl⟩
              rw [← hX0]
              have y0 : Below (wv2).heap.size (wv2) X0 := by rw [hX0]; exact Below.drewN_ (Below.refl _ _) 1
              clear hX0
              refine wpAnyH_take (i := 1) (oi := vmul26_1) (v := .agg #[.bool ng1, .slice A1' m1' c1', .slice D1 k1 e1]) rfl (by kernel_rfl) (by kernel_rfl) (by kernel_rfl) (fun _ _ _ h => h) (Or.inl ⟨by kernel_rfl, ?_⟩) ((fun b _ hb => (y0).block b hb)) ?_
              · intro w hSw; obtain ⟨⟨e0, e1, e2⟩, e3, e4, e5⟩ := HQ.out w hSw; go_simp <;> first | omega | (intro hh; exfalso; omega) | rfl
              try simp only [Act.put, List.setIfInBounds_toArray, List.set_cons_zero, List.set_cons_succ, vmul26_1]
              refine wpAnyH_take (i := 2) (oi := vmul26_2) (v := .agg #[.bool ng2, .slice A2x m2x c2x, .slice D2 k2 e2]) rfl (by kernel_rfl) (by kernel_rfl) (by kernel_rfl) (fun _ _ _ h => h) (Or.inl ⟨by kernel_rfl, ?_⟩) ((fun b _ hb => (y0).block b hb)) ?_
              · intro w hSw; obtain ⟨⟨e0, e1, e2⟩, e3, e4, e5⟩ := HQ.out w hSw; go_simp <;> first | omega | (intro hh; exfalso; omega) | rfl
              try simp only [Act.put, List.setIfInBounds_toArray, List.set_cons_zero, List.set_cons_succ, vmul26_2]
              refine wpAnyH_ready (rs := [0, 3]) (by kernel_rfl) (by simp) ?_
              apply AllReadyH.cons (o := vmul26_0) (by kernel_rfl)
              case h =>
                intro K hK
                simp only [vmul26_0]
                have hr := HS.out.1.keep y0
                have e0 := hr.cell 0; have e1 := hr.cell 1; have e2 := hr.cell 2
                simp at e0 e1 e2
                go_simp
                clear hr e0 e1 e2
                refine hK.out _ _ ((fun b _ hb => (y0).block b hb)) (fun hHeld => ?_)
                clear hK K hHeld
                try simp only [Act.put, List.setIfInBounds_toArray, List.set_cons_zero, List.set_cons_succ]
                refine wpAnyH_ready (rs := [3]) (by kernel_rfl) (by simp) ?_
                apply AllReadyH.cons (o := vmul26_3) (by kernel_rfl)
                case hs => exact AllReadyH.nil
                intro K hK
                simp only [vmul26_3]
                go_simp
                go_at_call 35
                refine (refq_Prod _ _ _ (MX i j) (MY j k) 600 600 (HXV2.out.keep y0) (HYV.out.keep y0) (by omega) (by omega)).mono ?_
                rintro e' X1 ⟨pv, rfl, hpv, b1⟩
                have y1 := below_seq y0 b1
                obtain ⟨ng4, A4, m4, c4, D4, k4, e4, rfl⟩ := hpv.shape
                refine hK.out _ _ ((fun b _ hb => (y1).block b hb)) (fun hHeld => ?_)
                clear hK K hHeld
                try simp only [Act.put, List.setIfInBounds_toArray, List.set_cons_zero, List.set_cons_succ]
                refine wpAnyH_ready (rs := [4]) (by kernel_rfl) (by simp) ?_
                apply AllReadyH.cons (o := vmul26_4) (by kernel_rfl)
                case hs => exact AllReadyH.nil
                intro K hK
                simp only [vmul26_4]
                go_simp
                go_at_call 34
                refine (refq_Sum _ _ _ _ _ (j * 1201 + 1) (600 + 600) (HS.out.2.keep y1) hpv (by omega) (by omega)).mono ?_
                rintro e' X2 ⟨sv, rfl, hsv, b2⟩
                have y2 := below_seq y1 b2
                obtain ⟨ng5, A5, m5, c5, D5, k5, e5, rfl⟩ := hsv.shape
                have HSV := Lib.hid hsv
                clear hpv hsv b1 b2
                refine hK.out _ _ ((fun b _ hb => (y2).block b hb)) (fun hHeld => ?_)
                clear hK K hHeld
                try simp only [Act.put, List.setIfInBounds_toArray, List.set_cons_zero, List.set_cons_succ]
                refine wpAnyH_ready (rs := [5]) (by kernel_rfl) (by simp) ?_
                apply AllReadyH.cons (o := vmul26_5) (by kernel_rfl)
                case hs => exact AllReadyH.nil
                intro K hK
                simp only [vmul26_5]
                obtain ⟨w9', hw9, hrow9, hb9, hO9, q0, q1, q2, f0, f1, f2⟩ := qput2 (.bool ng5) (.slice A5 m5 c5) (.slice D5 k5 e5) (HS.out.1.keep y2) (hbw2.trans (y2.mono hbw2.size)) hg0
                have S9 : ∀ b, b ≠ wz.heap.size → b < wv2.heap.size → w9'.heap[b]? = wv2.heap[b]? := fun b hb hl => (hO9.block b hb).trans (y2.block b hl)
                have HV9 : Hid (RefVar 27 w9' wz.heap.size (sigma (j + 1) fun j => MX i j * MY j k) ((j + 1) * 1201 + 1)) := Lib.hid ⟨_, _, _, _, _, _, _, hrow9, (HSV.out.rowq (HS.out.1.keep y2) hO9).mono (by omega)⟩
                have HW9 := Lib.hid hw9; have HB9 := Lib.hid hb9
                clear hw9 hrow9 hb9 hO9
                go_simp
                rw [← HW9.out]
                clear q0 q1 q2 f0 f1 f2
                refine hK.out _ _ (S9) (fun hHeld => ?_)
                clear hK K hHeld
                try simp only [Act.put, List.setIfInBounds_toArray, List.set_cons_zero, List.set_cons_succ]
                refine wpAnyH_done (by kernel_rfl) ?_ _
                go_wp2_with fail
                go_roundw
                case rel => exact ⟨j + 1, by go_num, by omega, HV9, HB9.out⟩
                case measure => simp [intOf]; omega
              apply AllReadyH.cons (o := vmul26_3) (by kernel_rfl)
              case h =>
                intro K hK
                simp only [vmul26_3]
                go_simp
                go_at_call 35
                refine (refq_Prod _ _ _ (MX i j) (MY j k) 600 600 (HXV2.out.keep y0) (HYV.out.keep y0) (by omega) (by omega)).mono ?_
                rintro e' X1 ⟨pv, rfl, hpv, b1⟩
                have y1 := below_seq y0 b1
                obtain ⟨ng4, A4, m4, c4, D4, k4, e4, rfl⟩ := hpv.shape
                refine hK.out _ _ ((fun b _ hb => (y1).block b hb)) (fun hHeld => ?_)
                clear hK K hHeld
                try simp only [Act.put, List.setIfInBounds_toArray, List.set_cons_zero, List.set_cons_succ]
                refine wpAnyH_ready (rs := [0]) (by kernel_rfl) (by simp) ?_
                apply AllReadyH.cons (o := vmul26_0) (by kernel_rfl)
                case hs => exact AllReadyH.nil
                intro K hK
                simp only [vmul26_0]
                have hr := HS.out.1.keep y1
                have e0 := hr.cell 0; have e1 := hr.cell 1; have e2 := hr.cell 2
                simp at e0 e1 e2
                go_simp
                clear hr e0 e1 e2
                refine hK.out _ _ ((fun b _ hb => (y1).block b hb)) (fun hHeld => ?_)
                clear hK K hHeld
                try simp only [Act.put, List.setIfInBounds_toArray, List.set_cons_zero, List.set_cons_succ]
                refine wpAnyH_ready (rs := [4]) (by kernel_rfl) (by simp) ?_
                apply AllReadyH.cons (o := vmul26_4) (by kernel_rfl)
                case hs => exact AllReadyH.nil
                intro K hK
                simp only [vmul26_4]
                go_simp
                go_at_call 34
                refine (refq_Sum _ _ _ _ _ (j * 1201 + 1) (600 + 600) (HS.out.2.keep y1) hpv (by omega) (by omega)).mono ?_
                rintro e' X2 ⟨sv, rfl, hsv, b2⟩
                have y2 := below_seq y1 b2
                obtain ⟨ng5, A5, m5, c5, D5, k5, e5, rfl⟩ := hsv.shape
                have HSV := Lib.hid hsv
                clear hpv hsv b1 b2
                refine hK.out _ _ ((fun b _ hb => (y2).block b hb)) (fun hHeld => ?_)
                clear hK K hHeld
                try simp only [Act.put, List.setIfInBounds_toArray, List.set_cons_zero, List.set_cons_succ]
                refine wpAnyH_ready (rs := [5]) (by kernel_rfl) (by simp) ?_
                apply AllReadyH.cons (o := vmul26_5) (by kernel_rfl)
                case hs => exact AllReadyH.nil
                intro K hK
                simp only [vmul26_5]
                obtain ⟨w9', hw9, hrow9, hb9, hO9, q0, q1, q2, f0, f1, f2⟩ := qput2 (.bool ng5) (.slice A5 m5 c5) (.slice D5 k5 e5) (HS.out.1.keep y2) (hbw2.trans (y2.mono hbw2.size)) hg0
                have S9 : ∀ b, b ≠ wz.heap.size → b < wv2.heap.size → w9'.heap[b]? = wv2.heap[b]? := fun b hb hl => (hO9.block b hb).trans (y2.block b hl)
                have HV9 : Hid (RefVar 27 w9' wz.heap.size (sigma (j + 1) fun j => MX i j * MY j k) ((j + 1) * 1201 + 1)) := Lib.hid ⟨_, _, _, _, _, _, _, hrow9, (HSV.out.rowq (HS.out.1.keep y2) hO9).mono (by omega)⟩
                have HW9 := Lib.hid hw9; have HB9 := Lib.hid hb9
                clear hw9 hrow9 hb9 hO9
                go_simp
                rw [← HW9.out]
                clear q0 q1 q2 f0 f1 f2
                refine hK.out _ _ (S9) (fun hHeld => ?_)
                clear hK K hHeld
                try simp only [Act.put, List.setIfInBounds_toArray, List.set_cons_zero, List.set_cons_succ]
                refine wpAnyH_done (by kernel_rfl) ?_ _
                go_wp2_with fail
                go_roundw
                case rel => exact ⟨j + 1, by go_num, by omega, HV9, HB9.out⟩
                case measure => simp [intOf]; omega
              exact AllReadyH.nil
            · obtain rfl : j = n := by omega
              obtain ⟨ng3, A3, m3, c3, D3, k3, e3, hR3, hI3⟩ := hvar.out
              have hsg : (sigma j fun j => MX i j * MY j k) = P i k := by rw [HPE.out]; rfl
              rw [hsg] at hI3
              have HI3 := Lib.hid hI3
              have HR3 : Hid (∀ X : World, Below wr.heap.size wr X → X.cell? ⟨wz.heap.size, 0, none⟩ = some (.bool ng3) ∧ X.cell? ⟨wz.heap.size, 1, none⟩ = some (.slice A3 m3 c3) ∧ X.cell? ⟨wz.heap.size, 2, none⟩ = some (.slice D3 k3 e3)) := Lib.hid fun X h => ⟨(hR3.keep h).cell 0, (hR3.keep h).cell 1, (hR3.keep h).cell 2⟩
              have CA : Hid (∀ X, Below wr.heap.size wr X → Calls Tryz.prog 45 #[.pointer (some ⟨pb, 0, none⟩), .int .i64 i, .int .i64 k] X (Gives (fun z w' => FracPtr w' z (P i k)) X)) := Lib.hid fun X h => mat_At X _ r s i k P (HP.out X (K6.out X (below_seq hB10 h))) hir hks (by omega) (by omega)
              have CTN : Hid (∀ X, Below wr.heap.size wr X → Calls Tryz.prog 46 #[.pointer (some ⟨pb, 0, none⟩)] X (Gives (fun z w' => MatR w' z s r (turnM P)) X)) := Lib.hid fun X h => mat_Turn X _ r s P (HP.out X (K6.out X (below_seq hB10 h))) h0r h0s (by omega) (by omega)
              have hfp := HFP.out i k hir hks
              have CX : Hid (∀ X v, Below wr.heap.size wr X → FracPtr X v (P i k) → Calls Tryz.prog 18 #[v] X (Keeps (.string ⟨(fracText (P i k)).toArray⟩) X)) := Lib.hid fun X v h hv => frac_Text X v _ hv.at_ (hfp.mono (by omega)) (HT.out.keep (ZW.out X (below_seq hB10 h)))
              have CQ : Hid (∀ X, Below wr.heap.size wr X → Calls Tryz.prog 15 #[.agg #[.bool ng3, .slice A3 m3 c3, .slice D3 k3 e3]] X (Keeps (.string ⟨(fracText (P i k)).toArray⟩) X)) := Lib.hid fun X h => refq_Text X _ _ _ (HI3.out.keep h) (by omega)
              obtain ⟨TT, hTT⟩ : ∃ TT : ByteArray, TT = ⟨(fracText (P i k)).toArray⟩ := ⟨_, rfl⟩
              rw [← hTT] at CX CQ
              have HB10 := Lib.hid hB10
              clear hvar hR3 hI3 hsg hTT hfp hB10 hbw
              go_upto_region 27 with fail
              refine wp_region_held (S := fun X : World => Below wr.heap.size wr X) (by kernel_rfl) ?_
              change wpAnyH _ _ _ _ _ _ _ _ (World.drew _)
              obtain ⟨X0, hX0⟩ : ∃ X, X = (wr).drew := ⟨_, rfl⟩
              rw [← hX0]
              have y0 : Below (wr).heap.size (wr) X0 := by rw [hX0]; exact Below.drewN_ (Below.refl _ _) 1
              clear hX0
              refine wpAnyH_take (i := 0) (oi := vmul27_0) (v := .pointer (some ⟨pb, 0, none⟩)) rfl (by kernel_rfl) (by kernel_rfl) (by kernel_rfl) (fun _ _ _ h => h) (Or.inl ⟨by kernel_rfl, ?_⟩) (y0) ?_
              · intro w hSw; go_simp <;> first | omega | (intro hh; exfalso; omega) | rfl | simp
              try simp only [Act.put, List.setIfInBounds_toArray, List.set_cons_zero, List.set_cons_succ, vmul27_0]
              refine wpAnyH_take (i := 1) (oi := vmul27_1) (v := .int .i64 i) rfl (by kernel_rfl) (by kernel_rfl) (by kernel_rfl) (fun _ _ _ h => h) (Or.inl ⟨by kernel_rfl, ?_⟩) (y0) ?_
              · intro w hSw; go_simp <;> first | omega | (intro hh; exfalso; omega) | rfl | simp
              try simp only [Act.put, List.setIfInBounds_toArray, List.set_cons_zero, List.set_cons_succ, vmul27_1]
              refine wpAnyH_take (i := 2) (oi := vmul27_2) (v := .int .i64 k) rfl (by kernel_rfl) (by kernel_rfl) (by kernel_rfl) (fun _ _ _ h => h) (Or.inl ⟨by kernel_rfl, ?_⟩) (y0) ?_
              · intro w hSw; go_simp <;> first | omega | (intro hh; exfalso; omega) | rfl | simp
              try simp only [Act.put, List.setIfInBounds_toArray, List.set_cons_zero, List.set_cons_succ, vmul27_2]
              refine wpAnyH_take (i := 5) (oi := vmul27_5) (v := .agg #[.bool ng3, .slice A3 m3 c3, .slice D3 k3 e3]) rfl (by kernel_rfl) (by kernel_rfl) (by kernel_rfl) (fun _ _ _ h => h) (Or.inl ⟨by kernel_rfl, ?_⟩) (y0) ?_
              · intro w hSw; obtain ⟨e0, e1, e2⟩ := HR3.out w hSw; go_simp <;> first | omega | (intro hh; exfalso; omega) | rfl | simp
              try simp only [Act.put, List.setIfInBounds_toArray, List.set_cons_zero, List.set_cons_succ, vmul27_5]
              refine wpAnyH_ready (rs := [3]) (by kernel_rfl) (by simp) ?_
              apply AllReadyH.cons (o := vmul27_3) (by kernel_rfl)
              case hs => exact AllReadyH.nil
              intro K hK
              simp only [vmul27_3]
              go_simp
              go_at_call 45
              refine (CA.out _ y0).mono ?_
              rintro e' X1 ⟨v1, rfl, hv1, b1⟩
              have y1 := below_seq y0 b1
              have HV1 := Lib.hid hv1
              obtain ⟨p1, rfl⟩ := hv1.ptr
              clear hv1
              refine hK.out _ _ (y1) (fun hHeld => ?_)
              clear hK K hHeld
              try simp only [Act.put, List.setIfInBounds_toArray, List.set_cons_zero, List.set_cons_succ]
              refine wpAnyH_ready (rs := [4]) (by kernel_rfl) (by simp) ?_
              apply AllReadyH.cons (o := vmul27_4) (by kernel_rfl)
              case hs => exact AllReadyH.nil
              intro K hK
              simp only [vmul27_4]
              go_simp
              go_at_call 18
              refine (CX.out _ _ y1 HV1.out).mono ?_
              rintro e' X2 ⟨rfl, b2⟩
              have y2 := below_seq y1 b2
              refine hK.out _ _ (y2) (fun hHeld => ?_)
              clear hK K hHeld
              try simp only [Act.put, List.setIfInBounds_toArray, List.set_cons_zero, List.set_cons_succ]
              refine wpAnyH_ready (rs := [6]) (by kernel_rfl) (by simp) ?_
              apply AllReadyH.cons (o := vmul27_6) (by kernel_rfl)
              case hs => exact AllReadyH.nil
              intro K hK
              simp only [vmul27_6]
              go_simp
              go_at_call 15
              refine (CQ.out _ y2).mono ?_
              rintro e' X3 ⟨rfl, b3⟩
              have y3 := below_seq y2 b3
              refine hK.out _ _ (y3) (fun hHeld => ?_)
              clear hK K hHeld
              try simp only [Act.put, List.setIfInBounds_toArray, List.set_cons_zero, List.set_cons_succ]
              refine wpAnyH_take (i := 7) (oi := vmul27_7) (v := .bool false) rfl (by kernel_rfl) (by kernel_rfl) (by kernel_rfl) (fun _ _ _ h => h) (Or.inl ⟨by kernel_rfl, ?_⟩) (y3) ?_
              · intro w hSw; go_simp <;> first | omega | (intro hh; exfalso; omega) | rfl | simp
              try simp only [Act.put, List.setIfInBounds_toArray, List.set_cons_zero, List.set_cons_succ, vmul27_7]
              refine wpAnyH_take (i := 8) (oi := vmul27_8) (v := .bool false) rfl (by kernel_rfl) (by kernel_rfl) (by kernel_rfl) (fun _ _ _ h => h) (Or.inl ⟨by kernel_rfl, ?_⟩) (y3) ?_
              · intro w hSw; go_simp <;> first | omega | (intro hh; exfalso; omega) | rfl | simp
              try simp only [Act.put, List.setIfInBounds_toArray, List.set_cons_zero, List.set_cons_succ, vmul27_8]
              refine wpAnyH_take (i := 9) (oi := vmul27_9) (v := .pointer (some ⟨pb, 0, none⟩)) rfl (by kernel_rfl) (by kernel_rfl) (by kernel_rfl) (fun _ _ _ h => h) (Or.inl ⟨by kernel_rfl, ?_⟩) (y3) ?_
              · intro w hSw; go_simp <;> first | omega | (intro hh; exfalso; omega) | rfl | simp
              try simp only [Act.put, List.setIfInBounds_toArray, List.set_cons_zero, List.set_cons_succ, vmul27_9]
              refine wpAnyH_take (i := 11) (oi := vmul27_11) (v := .int .i64 k) rfl (by kernel_rfl) (by kernel_rfl) (by kernel_rfl) (fun _ _ _ h => h) (Or.inl ⟨by kernel_rfl, ?_⟩) (y3) ?_
              · intro w hSw; go_simp <;> first | omega | (intro hh; exfalso; omega) | rfl | simp
              try simp only [Act.put, List.setIfInBounds_toArray, List.set_cons_zero, List.set_cons_succ, vmul27_11]
              refine wpAnyH_take (i := 12) (oi := vmul27_12) (v := .int .i64 i) rfl (by kernel_rfl) (by kernel_rfl) (by kernel_rfl) (fun _ _ _ h => h) (Or.inl ⟨by kernel_rfl, ?_⟩) (y3) ?_
              · intro w hSw; go_simp <;> first | omega | (intro hh; exfalso; omega) | rfl | simp
              try simp only [Act.put, List.setIfInBounds_toArray, List.set_cons_zero, List.set_cons_succ, vmul27_12]
              refine wpAnyH_take (i := 15) (oi := vmul27_15) (v := .agg #[.bool ng3, .slice A3 m3 c3, .slice D3 k3 e3]) rfl (by kernel_rfl) (by kernel_rfl) (by kernel_rfl) (fun _ _ _ h => h) (Or.inl ⟨by kernel_rfl, ?_⟩) (y3) ?_
              · intro w hSw; obtain ⟨e0, e1, e2⟩ := HR3.out w hSw; go_simp <;> first | omega | (intro hh; exfalso; omega) | rfl | simp
              try simp only [Act.put, List.setIfInBounds_toArray, List.set_cons_zero, List.set_cons_succ, vmul27_15]
              refine wpAnyH_ready (rs := [10]) (by kernel_rfl) (by simp) ?_
              apply AllReadyH.cons (o := vmul27_10) (by kernel_rfl)
              case hs => exact AllReadyH.nil
              intro K hK
              simp only [vmul27_10]
              go_simp
              go_at_call 46
              refine (CTN.out _ y3).mono ?_
              rintro e' X4 ⟨v4, rfl, hv4, b4⟩
              have y4 := below_seq y3 b4
              have HV4 := Lib.hid hv4
              obtain ⟨p4, rfl⟩ := hv4.shape
              clear hv4
              refine hK.out _ _ (y4) (fun hHeld => ?_)
              clear hK K hHeld
              try simp only [Act.put, List.setIfInBounds_toArray, List.set_cons_zero, List.set_cons_succ]
              refine wpAnyH_ready (rs := [13]) (by kernel_rfl) (by simp) ?_
              apply AllReadyH.cons (o := vmul27_13) (by kernel_rfl)
              case hs => exact AllReadyH.nil
              intro K hK
              simp only [vmul27_13]
              go_simp
              go_at_call 45
              refine (mat_At _ _ s r k i (turnM P) HV4.out hks hir (by omega) (by omega)).mono ?_
              rintro e' X5 ⟨v5, rfl, hv5, b5⟩
              have y5 := below_seq y4 b5
              have HV5 := Lib.hid hv5
              obtain ⟨p5, rfl⟩ := hv5.ptr
              clear hv5
              refine hK.out _ _ (y5) (fun hHeld => ?_)
              clear hK K hHeld
              try simp only [Act.put, List.setIfInBounds_toArray, List.set_cons_zero, List.set_cons_succ]
              refine wpAnyH_ready (rs := [14]) (by kernel_rfl) (by simp) ?_
              apply AllReadyH.cons (o := vmul27_14) (by kernel_rfl)
              case hs => exact AllReadyH.nil
              intro K hK
              simp only [vmul27_14]
              go_simp
              go_at_call 18
              refine (CX.out _ _ y5 HV5.out).mono ?_
              rintro e' X6 ⟨rfl, b6⟩
              have y6 := below_seq y5 b6
              refine hK.out _ _ (y6) (fun hHeld => ?_)
              clear hK K hHeld
              try simp only [Act.put, List.setIfInBounds_toArray, List.set_cons_zero, List.set_cons_succ]
              refine wpAnyH_ready (rs := [16]) (by kernel_rfl) (by simp) ?_
              apply AllReadyH.cons (o := vmul27_16) (by kernel_rfl)
              case hs => exact AllReadyH.nil
              intro K hK
              simp only [vmul27_16]
              go_simp
              go_at_call 15
              refine (CQ.out _ y6).mono ?_
              rintro e' X7 ⟨rfl, b7⟩
              have y7 := below_seq y6 b7
              refine hK.out _ _ (y7) (fun hHeld => ?_)
              clear hK K hHeld
              try simp only [Act.put, List.setIfInBounds_toArray, List.set_cons_zero, List.set_cons_succ]
              refine wpAnyH_take (i := 17) (oi := vmul27_17) (v := .bool false) rfl (by kernel_rfl) (by kernel_rfl) (by kernel_rfl) (fun _ _ _ h => h) (Or.inl ⟨by kernel_rfl, ?_⟩) (y7) ?_
              · intro w hSw; go_simp <;> first | omega | (intro hh; exfalso; omega) | rfl | simp
              try simp only [Act.put, List.setIfInBounds_toArray, List.set_cons_zero, List.set_cons_succ, vmul27_17]
              refine wpAnyH_take (i := 18) (oi := vmul27_18) (v := .bool false) rfl (by kernel_rfl) (by kernel_rfl) (by kernel_rfl) (fun _ _ _ h => h) (Or.inl ⟨by kernel_rfl, ?_⟩) (y7) ?_
              · intro w hSw; go_simp <;> first | omega | (intro hh; exfalso; omega) | rfl | simp
              try simp only [Act.put, List.setIfInBounds_toArray, List.set_cons_zero, List.set_cons_succ, vmul27_18]
              refine wpAnyH_done (by kernel_rfl) ?_ _
              have ZZ := Lib.hid (below_seq HB10.out y7)
              go_wp2_with fail
              exact ⟨⟨k + 1, by go_num, by omega, ZZ.out⟩, by simp [intOf]; omega⟩
        · obtain rfl : k = s := by omega
          go_wp2_with fail
          exact ⟨⟨i + 1, by go_num, by omega, hby⟩, by simp [intOf]; omega⟩
    · obtain rfl : i = r := by omega
      by_cases hrs : i = s
      · subst hrs
        have CM : Hid (Calls Tryz.prog 43 #[.pointer (some ⟨m2, 0, none⟩), .pointer (some ⟨m1, 0, none⟩)] wr (fun e w' => ∃ z, e = .returned (.tuple #[z, .bool true]) ∧ MatR w' z n n (mulM i MY MX) ∧ Below wr.heap.size wr w')) := Lib.hid (mat_Mul wr _ _ n i n 2000 MY MX (HM2.out _ (K5.out _ hbx)) (HM1'.out _ (K5.out _ hbx)) HFY.out HFX.out h0n h0r h0n (by omega) (by omega) (by omega) (by omega))
        go_wp2_with fail
        go_at_call 43
        refine CM.out.mono ?_
        rintro e wq ⟨z, rfl, hz, hbq⟩
        obtain ⟨zb, rfl⟩ := hz.shape
        clear hz
        go_wp2_with fail
        go_ret
        exact ⟨by first | rfl | simp, ZW.out _ (below_seq hbx hbq)⟩
      · have hrs' : ((i : Int) == (s : Int)) = false := by rw [beq_eq_false_iff_ne]; omega
        have CM : Hid (Calls Tryz.prog 43 #[.pointer (some ⟨m2, 0, none⟩), .pointer (some ⟨m1, 0, none⟩)] wr (Keeps (.tuple #[.pointer none, .bool false]) wr)) := Lib.hid (mat_Mul_no wr _ _ n s i n MY MX (HM2.out _ (K5.out _ hbx)) (HM1'.out _ (K5.out _ hbx)) (Ne.symm hrs) (by omega) (by omega) (by omega) (by omega))
        go_wp2_with fail
        go_at_call 43
        refine CM.out.mono ?_
        rintro e wq ⟨rfl, hbq⟩
        go_wp2_with fail
        go_ret
        exact ⟨by first | rfl | simp, ZW.out _ (below_seq hbx hbq)⟩
end Go.Proofs.YthephiihcgibjaaGreatDoor
