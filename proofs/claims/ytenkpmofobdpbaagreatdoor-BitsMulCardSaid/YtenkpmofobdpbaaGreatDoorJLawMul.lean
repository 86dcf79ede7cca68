/- The law BitsMul: products of two words, and quotients of two by one. -/
import Derived.Test.YtenkpmofobdpbaaGreatDoorJWalkH
import Derived.Test.YtenkpmofobdpbaaGreatDoorJWalkJ
set_option linter.unusedVariables false
set_option linter.unusedSimpArgs false
namespace Vic
open Go Go.RowKit
theorem word_len {n : Nat} (h : n < 18446744073709551616) : (tdg n).length ≤ 5 := tdg_len (Nat.lt_of_lt_of_le h (by decide))
theorem word2_len {n : Nat} (h : n < 18446744073709551616 * 18446744073709551616) : (tdg n).length ≤ 10 := tdg_len (Nat.lt_of_lt_of_le h (by decide))
theorem mul_word {x y : Nat} (hx : x < 18446744073709551616) (hy : y < 18446744073709551616) : x * y < 18446744073709551616 * 18446744073709551616 := Nat.mul_lt_mul'' hx hy
theorem two_word {x y : Nat} (hx : x < 18446744073709551616) (hy : y < 18446744073709551616) : x * 2 ^ 64 + y < 18446744073709551616 * 18446744073709551616 := by
  have : x * 2 ^ 64 ≤ 18446744073709551615 * 18446744073709551616 := Nat.mul_le_mul (by omega) (by decide)
  omega
theorem div_word_lt {h l y : Nat} (hh : h < y) (hl : l < 18446744073709551616) (hy : y < 18446744073709551616) : (h * 18446744073709551616 + l) / y < 18446744073709551616 ∧ (h * 18446744073709551616 + l) % y < 18446744073709551616 := by
  refine ⟨?_, Nat.lt_trans (Nat.mod_lt _ (by omega)) hy⟩
  rw [Nat.div_lt_iff_lt_mul (by omega)]
  have : (h + 1) * 18446744073709551616 ≤ y * 18446744073709551616 := Nat.mul_le_mul_right _ hh
  rw [Nat.mul_comm 18446744073709551616 y]
  omega
end Vic
namespace Go.Proofs.YtenkpmofobdpbaaGreatDoor
open Go.RowKit Vic

set_option maxRecDepth 100000 in
set_option maxHeartbeats 8000000 in
theorem law_BitsMul (w : World) (ht : Tab w) (x y z : Nat) (hx : x < 18446744073709551616) (hy : y < 18446744073709551616) (hz : z < 18446744073709551616) :
    Calls Tryz.prog 3 #[.int .u64 x, .int .u64 y, .int .u64 z] w (Keeps (.bool true) w) := by
  have CB := Lib.hid (law_begun w ht)
  have CM0 : Hid (∀ wr, Calls Tryz.prog 10 #[.int .u64 x, .int .u64 y] wr (Rets (.tuple #[.int .u64 ((x * y / 18446744073709551616 : Nat) : Int), .int .u64 ((x * y % 18446744073709551616 : Nat) : Int)]) wr)) := fun wr => bits_Mul x y wr hx hy
  have hxy := mul_word hx hy
  obtain ⟨h, hh⟩ : ∃ h, h = x * y / 18446744073709551616 := ⟨_, rfl⟩
  obtain ⟨l, hl⟩ : ∃ l, l = x * y % 18446744073709551616 := ⟨_, rfl⟩
  have hhb : h < 18446744073709551616 := by rw [hh]; exact (Nat.div_lt_iff_lt_mul (by omega)).2 hxy
  have hlb : l < 18446744073709551616 := by rw [hl]; exact Nat.mod_lt _ (by omega)
  have hsum : h * 2 ^ 64 + l = x * y := by
    rw [hh, hl, show (2 : Nat) ^ 64 = 18446744073709551616 from rfl, Nat.mul_comm]
    exact Nat.div_add_mod _ _
  rw [← hh, ← hl] at CM0
  have O : Hid (∀ (wr : World) (n : Nat), n < 18446744073709551616 → Calls Tryz.prog 12 #[.int .u64 (n : Int)] wr (Gives (fun v w' => RefN w' v n) wr)) := fun wr n hn => ref_OfU wr n hn
  have T : Hid (∀ wr, Calls Tryz.prog 14 #[.int .i64 64] wr (Gives (fun v w' => RefN w' v (2 ^ 64)) wr)) := fun wr => ref_Two wr 64 (by omega)
  have L64 : Hid ((tdg (2 ^ 64)).length ≤ 100) := Lib.hid (two_len (Nat.le_refl _) (by omega))
  have HX := Lib.hid hx; have HY := Lib.hid hy; have HZ := Lib.hid hz; have HH := Lib.hid hhb; have HL := Lib.hid hlb; have HS := Lib.hid hsum
  have LX := Lib.hid (word_len hx); have LY := Lib.hid (word_len hy); have LZ := Lib.hid (word_len hz); have LH := Lib.hid (word_len hhb); have LL := Lib.hid (word_len hlb)
  have OX := Lib.hid (fun wr => O.out wr x hx); have OY := Lib.hid (fun wr => O.out wr y hy); have OZ := Lib.hid (fun wr => O.out wr z hz); have OH := Lib.hid (fun wr => O.out wr h hhb); have OL := Lib.hid (fun wr => O.out wr l hlb)
  have LXY := Lib.hid (word2_len hxy)
  have LH64 : Hid ((tdg (h * 2 ^ 64)).length ≤ 10) := Lib.hid (word2_len (Nat.lt_of_le_of_lt (Nat.le_add_right _ _) (two_word hhb hlb)))
  clear hh hl hxy hx hy hz hhb hlb hsum
  go_enter Tryz.func3, Tryz.ntmps3
  go_wp2_with fail
  refine CB.out.mono ?_
  rintro e w1 ⟨rfl, hb1⟩
  go_wp2_with fail
  refine (CM0.out _).mono ?_
  rintro e w' ⟨rfl, rfl⟩
  go_wp2_with fail
  refine (OX.out _).mono ?_
  rintro e w2 ⟨x2, rfl, hx2, hb2⟩
  go_wp2_with fail
  refine (OY.out _).mono ?_
  rintro e w3 ⟨x3, rfl, hx3, hb3⟩
  have C3 := Lib.hid (ref_Mul w3 x2 x3 x y (hx2.keep hb3) hx3 (by have := LX.out; omega) (by have := LY.out; omega))
  have B3 := below_seq hb1 (below_seq hb2 hb3)
  clear hx2 hx3
  go_wp2_with fail
  refine C3.out.mono ?_
  rintro e w4 ⟨x4, rfl, hx4, hb4⟩
  have HX4 := Lib.hid hx4
  clear hx4 C3
  go_wp2_with fail
  refine (OH.out _).mono ?_
  rintro e w5 ⟨x5, rfl, hx5, hb5⟩
  go_wp2_with fail
  refine (T.out _).mono ?_
  rintro e w6 ⟨x6, rfl, hx6, hb6⟩
  have C6 := Lib.hid (ref_Mul w6 x5 x6 h (2 ^ 64) (hx5.keep hb6) hx6 (by have := LH.out; omega) (by have := L64.out; omega))
  clear hx5 hx6
  go_wp2_with fail
  refine C6.out.mono ?_
  rintro e w7 ⟨x7, rfl, hx7, hb7⟩
  have HX7 := Lib.hid hx7
  clear hx7 C6
  go_wp2_with fail
  refine (OL.out _).mono ?_
  rintro e w8 ⟨x8, rfl, hx8, hb8⟩
  have C8 := Lib.hid (ref_Add w8 x7 x8 (h * 2 ^ 64) l (HX7.out.keep hb8) hx8 (by have := LH64.out; omega) (by have := LL.out; omega))
  have b48 := below_seq hb5 (below_seq hb6 (below_seq hb7 hb8))
  clear hx8 HX7
  go_wp2_with fail
  refine C8.out.mono ?_
  rintro e w9 ⟨x9, rfl, hx9, hb9⟩
  have b49 := below_seq b48 hb9
  have B9 := below_seq B3 (below_seq hb4 b49)
  have C90 := ref_Cmp w9 x4 x9 (x * y) (h * 2 ^ 64 + l) (HX4.out.keep b49) hx9 (by have := LXY.out; omega) (by rw [HS.out]; have := LXY.out; omega)
  rw [cmpI_eq HS.out.symm] at C90
  have C9 := Lib.hid C90
  clear hx9 C90 C8 HX4
  go_wp2_with fail
  refine C9.out.mono ?_
  rintro e w' ⟨rfl, rfl⟩
  have HXS := Lib.hid HX.out
  by_cases hxz : z ≤ x
  · have CD := Lib.hid (fun wr => bits_Div_no x y z wr hxz)
    have hge : ((z : Nat) : Int) ≤ ((x : Nat) : Int) := by omega
    go_wp2_with fail
    refine (CD.out _).mono ?_
    rintro e w' ⟨rfl, rfl⟩
    go_wp2_with fail
    go_ret
    exact ⟨rfl, B9⟩
  · have hlt : ¬ ((z : Nat) : Int) ≤ ((x : Nat) : Int) := by omega
    have hxz' : x < z := by omega
    have CD0 := fun wr => bits_Div_yes x y z wr hxz' HY.out HZ.out
    obtain ⟨q, hq⟩ : ∃ q, q = (x * 18446744073709551616 + y) / z := ⟨_, rfl⟩
    obtain ⟨r, hr⟩ : ∃ r, r = (x * 18446744073709551616 + y) % z := ⟨_, rfl⟩
    have hqr := div_word_lt hxz' HY.out HZ.out
    rw [← hq, ← hr] at hqr
    rw [← hq, ← hr] at CD0
    have CD := Lib.hid CD0
    have OQ := Lib.hid (fun wr => O.out wr q hqr.1); have OR := Lib.hid (fun wr => O.out wr r hqr.2)
    have LQ := Lib.hid (word_len hqr.1); have LR := Lib.hid (word_len hqr.2)
    have HQ := Lib.hid hq; have HR := Lib.hid hr
    have hz0 : Hid (z ≠ 0) := Lib.hid (by omega)
    have L1 : Hid ((tdg (x * 2 ^ 64)).length ≤ 10) := Lib.hid (word2_len (Nat.lt_of_le_of_lt (Nat.le_add_right _ _) (two_word HX.out HY.out)))
    have L2 : Hid ((tdg (x * 2 ^ 64 + y)).length ≤ 10) := Lib.hid (word2_len (two_word HX.out HY.out))
    have E1 : Hid ((x * 2 ^ 64 + y) / z = q) := Lib.hid hq.symm
    have E2 : Hid ((x * 2 ^ 64 + y) % z = r) := Lib.hid hr.symm
    clear CD0 hqr hq hr
    go_wp2_with fail
    refine (CD.out _).mono ?_
    rintro e w10 ⟨rfl, hb10⟩
    have B10 := below_seq B9 hb10
    go_wp2_with fail
    refine (OX.out _).mono ?_
    rintro e w11 ⟨x11, rfl, hx11, hb11⟩
    go_wp2_with fail
    refine (T.out _).mono ?_
    rintro e w12 ⟨x12, rfl, hx12, hb12⟩
    have C12 := Lib.hid (ref_Mul w12 x11 x12 x (2 ^ 64) (hx11.keep hb12) hx12 (by have := LX.out; omega) (by have := L64.out; omega))
    clear hx11 hx12
    go_wp2_with fail
    refine C12.out.mono ?_
    rintro e w13 ⟨x13, rfl, hx13, hb13⟩
    have HX13 := Lib.hid hx13
    clear hx13 C12
    go_wp2_with fail
    refine (OY.out _).mono ?_
    rintro e w14 ⟨x14, rfl, hx14, hb14⟩
    have C14 := Lib.hid (ref_Add w14 x13 x14 (x * 2 ^ 64) y (HX13.out.keep hb14) hx14 (by have := L1.out; omega) (by have := LY.out; omega))
    clear hx14 HX13
    go_wp2_with fail
    refine C14.out.mono ?_
    rintro e w15 ⟨x15, rfl, hx15, hb15⟩
    have HX15 := Lib.hid hx15
    clear hx15 C14
    go_wp2_with fail
    refine (OZ.out _).mono ?_
    rintro e w16 ⟨x16, rfl, hx16, hb16⟩
    have C16 := Lib.hid (ref_Div w16 x15 x16 (x * 2 ^ 64 + y) z (HX15.out.keep hb16) hx16 (by have := L2.out; omega) (by have := LZ.out; omega) hz0.out)
    rw [E1.out, E2.out] at C16
    have b16 := below_seq hb11 (below_seq hb12 (below_seq hb13 (below_seq hb14 (below_seq hb15 hb16))))
    clear hx16 HX15
    unfold RefParted at C16
    go_wp2_with fail
    refine C16.out.mono ?_
    rintro e w17 ⟨p17, r17, rfl, hp17, hr17, hb17⟩
    have HP := Lib.hid hp17; have HR17 := Lib.hid hr17
    have B17 := below_seq B10 (below_seq b16 hb17)
    clear hp17 hr17 C16
    go_wp2_with fail
    refine (OQ.out _).mono ?_
    rintro e w18 ⟨x18, rfl, hx18, hb18⟩
    have C180 := ref_Cmp w18 p17 x18 q q (HP.out.keep hb18) hx18 (by have := LQ.out; omega) (by have := LQ.out; omega)
    rw [cmpI_eq rfl] at C180
    have C18 := Lib.hid C180
    clear hx18 C180
    go_wp2_with fail
    refine C18.out.mono ?_
    rintro e w' ⟨rfl, rfl⟩
    go_wp2_with fail
    refine (OR.out _).mono ?_
    rintro e w19 ⟨x19, rfl, hx19, hb19⟩
    have C190 := ref_Cmp w19 r17 x19 r r (HR17.out.keep (below_seq hb18 hb19)) hx19 (by have := LR.out; omega) (by have := LR.out; omega)
    rw [cmpI_eq rfl] at C190
    have C19 := Lib.hid C190
    clear hx19 C190
    go_wp2_with fail
    refine C19.out.mono ?_
    rintro e w' ⟨rfl, rfl⟩
    go_wp2_with fail
    go_ret
    exact ⟨rfl, below_seq B17 (below_seq hb18 hb19)⟩
end Go.Proofs.YtenkpmofobdpbaaGreatDoor
