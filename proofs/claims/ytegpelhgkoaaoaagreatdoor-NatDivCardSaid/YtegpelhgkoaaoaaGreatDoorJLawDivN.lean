/- The law NatDiv: quotients of numbers of high words. -/
import Derived.Test.YtegpelhgkoaaoaaGreatDoorJWalkH
import Derived.Test.YtegpelhgkoaaoaaGreatDoorJLawGcd
import Derived.Test.YtegpelhgkoaaoaaGreatDoorJWalkD
import Derived.Test.YtegpelhgkoaaoaaGreatDoorJWalkJ
set_option linter.unusedVariables false
set_option linter.unusedSimpArgs false
namespace Vic
open Go Go.RowKit
theorem wsz_ {n k : Nat} (h : n < 4294967296 ^ k) : sz n ≤ k := digs_length_le (by omega) h
theorem pow32 (m : Nat) : (4294967296 : Nat) ^ m = 2 ^ (32 * m) :=
  (congrArg (· ^ m) (show (4294967296 : Nat) = 2 ^ 32 by decide)).trans (Nat.pow_mul 2 32 m).symm
theorem sz_pow {k : Nat} (m : Nat) (h : k < 32 * m) : sz (2 ^ k) ≤ m := by
  have h1 : 2 ^ k < 2 ^ (32 * m) := Nat.pow_lt_pow_right (by omega) h
  have h2 : 2 ^ k < 4294967296 ^ m := by rw [pow32 m]; exact h1
  exact wsz_ h2
theorem sz_next {b y : Nat} (hy : y < 18446744073709551616) : sz (b * 2 ^ 64 + y) ≤ sz b + 4 := by
  have h1 := sz_add (b * 2 ^ 64) y
  have h2 := sz_mul b (2 ^ 64)
  have h3 := sz_pow (k := 64) 3 (by omega)
  have h4 := sz_word hy
  clear hy
  generalize 2 ^ 64 = p at *
  generalize b * p = c at *
  generalize sz (c + y) = i1 at *
  generalize sz c = i2 at *
  generalize sz y = i3 at *
  generalize sz b = i4 at *
  generalize sz p = i5 at *
  omega
end Vic
namespace Go.Proofs.YtegpelhgkoaaoaaGreatDoor
open Go.RowKit Vic

set_option maxRecDepth 100000 in
set_option maxHeartbeats 8000000 in
theorem law_NatDiv (w : World) (ht : Tab w) (x y : Nat) (kk jj : Int) (hx : x < 18446744073709551616) (hy : y < 18446744073709551616) (h1 : -9223372036854775808 ≤ kk) (h2 : kk ≤ 9223372036854775807) (h3 : -9223372036854775808 ≤ jj) (h4 : jj ≤ 9223372036854775807) :
    Calls Tryz.prog 11 #[.int .u64 x, .int .u64 y, .int .i64 kk, .int .i64 jj] w (Keeps (.bool true) w) := by
  have CB := Lib.hid (law_begun w ht)
  obtain ⟨k, hk⟩ : ∃ k : Nat, (k : Int) = 1 + kk % 4 := ⟨(1 + kk % 4).toNat, by omega⟩
  obtain ⟨j, hj⟩ : ∃ j : Nat, (j : Int) = jj % 4 := ⟨(jj % 4).toNat, by omega⟩
  have hk4 : k ≤ 4 := by omega
  have hj4 : j < 4 := by omega
  have e1 : wrap64 (1 + ((wrap64 (kk.tmod 4 + 4)).tmod 4)) = (k : Int) := by
    have h5 : -4 < kk.tmod 4 ∧ kk.tmod 4 < 4 := ⟨Int.lt_tmod_of_pos kk (by omega), Int.tmod_lt_of_pos kk (by omega)⟩
    rw [show wrap64 (kk.tmod 4 + 4) = kk.tmod 4 + 4 by unfold wrap64; omega, Int.tmod_eq_emod_of_nonneg (by omega), hk, Int.tmod_eq_emod]
    unfold wrap64
    split <;> omega
  have e2 : ((wrap64 (jj.tmod 4 + 4)).tmod 4) = (j : Int) := by
    have h5 : -4 < jj.tmod 4 ∧ jj.tmod 4 < 4 := ⟨Int.lt_tmod_of_pos jj (by omega), Int.tmod_lt_of_pos jj (by omega)⟩
    rw [show wrap64 (jj.tmod 4 + 4) = jj.tmod 4 + 4 by unfold wrap64; omega, Int.tmod_eq_emod_of_nonneg (by omega), hj, Int.tmod_eq_emod]
    split <;> omega
  obtain ⟨b0, hb0⟩ : ∃ b0 : Nat, b0 = 9223372036854775808 + x / 2 := ⟨_, rfl⟩
  have hb0b : b0 < 18446744073709551616 := by omega
  have e3 : IntKind.u64.wrap (9223372036854775808 + (x : Int) / 2) = (b0 : Int) := by rw [IntKind.wrap_u64]; omega
  obtain ⟨x1, hx1⟩ : ∃ x1 : Nat, x1 = (1 + x) % 18446744073709551616 := ⟨_, rfl⟩
  have hx1b : x1 < 18446744073709551616 := by omega
  have e4 : IntKind.u64.wrap (1 + (x : Int)) = (x1 : Int) := by rw [IntKind.wrap_u64]; omega
  have C0 := Lib.hid (fun wr => nat_Ofp wr b0 hb0b)
  have C1 := Lib.hid (fun wr => nat_Ofp wr x1 hx1b)
  have CY := Lib.hid (fun wr => nat_Ofp wr y hy)
  have HY := Lib.hid hy; have HT := Lib.hid ht
  have B0 : Hid (b0 ≠ 0) := Lib.hid (by omega)
  have S0 : Hid ((dgs b0).length ≤ 2) := Lib.hid (sz_word hb0b)
  have S1 : Hid ((dgs x1).length ≤ 2) := Lib.hid (sz_word hx1b)
  clear hb0 hb0b hx1 hx1b hx hy ht hk hj
  go_enter Tryz.func11, Tryz.ntmps11
  go_wp2_with fail
  refine CB.out.mono ?_
  rintro e w1 ⟨rfl, hb1⟩
  go_wp2_with fail
  refine (C0.out _).mono ?_
  rintro e w2 ⟨v2, rfl, hv2, hb2⟩
  rw [e1]
  have B2 := below_seq hb1 hb2
  have HV2 := Lib.hid hv2
  clear hv2 C0 CB hb1 hb2 e1 e2 e3
  go_wp2_with fail
  go_loopw [11, 10] (fun t s wr => ∃ (i n : Nat), t = .int .i64 i ∧ i ≤ k ∧ Hid (NatPtr wr s n) ∧ Hid (n ≠ 0) ∧ Hid ((dgs n).length ≤ 2 + 4 * i) ∧ Below w.heap.size w wr) (fun t _ _ => k - (intOf t).toNat)
  case atStart => exact ⟨0, b0, rfl, by omega, HV2, B0, S0, B2⟩
  case round =>
    clear HV2 B0 S0 B2
    obtain ⟨i, n, rfl, hi, hn, hn0, hsn, hbr⟩ := hrel
    by_cases hlt : i < k
    · have hsn1 := hsn.out
      have CU := Lib.hid (nat_Shl_pos wr _ n 64 hn.out.at_ (by omega) (by omega))
      have hlt' : (i : Int) < (k : Int) := by omega
      have hs2 : Hid ((dgs (n * 2 ^ 64)).length ≤ 2 + 4 * i + 3) := Lib.hid (len_mul hsn1 (sz_pow (k := 64) 3 (by omega)) (by omega))
      have hs3 : Hid ((dgs (n * 2 ^ 64 + y)).length ≤ 2 + 4 * (i + 1)) := Lib.hid (Nat.le_trans (sz_next HY.out) (by show (dgs n).length + 4 ≤ _; omega))
      have hn2 : Hid (n * 2 ^ 64 + y ≠ 0) := Lib.hid (by
        have h9 := Nat.pos_of_ne_zero hn0.out
        have h8 : 0 < n * 2 ^ 64 := Nat.mul_pos h9 (Nat.pow_pos (by omega))
        omega)
      clear hsn1 hsn hn hn0
      go_wp2_with fail
      refine CU.out.mono ?_
      rintro e w3 ⟨v3, rfl, hv3, hb3⟩
      have HV3 := Lib.hid hv3
      clear hv3 CU
      go_wp2_with fail
      refine (CY.out _).mono ?_
      rintro e w4 ⟨v4, rfl, hv4, hb4⟩
      have hy2 : (dgs y).length ≤ 2 := sz_word HY.out
      have CA := Lib.hid (nat_Addp w4 v3 v4 (n * 2 ^ 64) y (HV3.out.keep hb4) hv4.at_ (by have := hs2.out; omega) (by omega))
      clear hv4 HV3 hy2
      go_wp2_with fail
      refine CA.out.mono ?_
      rintro e w5 ⟨v5, rfl, hv5, hb5⟩
      have HV5 := Lib.hid hv5
      clear hv5 CA
      go_wp2_with fail
      go_roundw
      case rel => exact ⟨i + 1, n * 2 ^ 64 + y, by go_num, by omega, HV5, hn2, hs3, below_seq hbr (below_seq hb3 (below_seq hb4 hb5))⟩
      case measure => simp [intOf]; omega
    · obtain rfl : i = k := by omega
      have hsn1 := hsn.out
      have hsn18 : Hid ((dgs n).length ≤ 18) := Lib.hid (by omega)
      have CU0 := nat_Shl_pos wr u10 n (64 * (j + 1)) hn.out.at_ (by omega) (by omega)
      obtain ⟨A, hA⟩ : ∃ A, A = n * 2 ^ (64 * (j + 1)) := ⟨_, rfl⟩
      have hA27 : Hid ((dgs A).length ≤ 30) := Lib.hid (by rw [hA]; exact len_mul hsn1 (sz_pow (k := 64 * (j + 1)) 9 (by omega)) (by omega))
      rw [← hA, show ((64 * (j + 1) : Nat) : Int) = 64 * ((j : Int) + 1) by omega] at CU0
      have CU := Lib.hid CU0
      have hlt' : ¬ (i : Int) < (i : Int) := by omega
      clear hsn1 hsn CU0 hA CY hi
      go_wp2_with fail
      refine CU.out.mono ?_
      rintro e w3 ⟨v3, rfl, hv3, hb3⟩
      have HV3 := Lib.hid hv3
      clear hv3 CU
      go_wp2_with fail
      refine (C1.out _).mono ?_
      rintro e w4 ⟨v4, rfl, hv4, hb4⟩
      have HV4 := Lib.hid hv4
      have b34 := below_seq hb3 hb4
      clear hv4 C1
      have HN : Hid (∀ W, Below w4.heap.size w4 W → NatAt W u10 n) := Lib.hid fun W h => (hn.out.keep (below_seq b34 h)).at_
      have B4 := below_seq hbr b34
      by_cases hle : x1 ≤ A
      case' pos =>
        have CL := Lib.hid (nat_Less_yes w4 v3 v4 A x1 (HV3.out.keep hb4) HV4.out.at_ (by have := hA27.out; omega) (by have := S1.out; omega) hle)
        clear hle
        go_wp2_with fail
        refine CL.out.mono ?_
        rintro e w5 ⟨v5, rfl, hv5, hb5⟩
        have hA2 : Hid ((dgs (A - x1)).length ≤ 30) := Lib.hid (Nat.le_trans (sz_mono (Nat.sub_le _ _)) hA27.out)
        obtain ⟨A2, hA2'⟩ : ∃ A2, A2 = A - x1 := ⟨_, rfl⟩
        rw [← hA2'] at hA2 hv5
        have HV5 := Lib.hid hv5
        clear hv5 hA2' CL
      case' neg =>
        have CL := Lib.hid (nat_Less_no w4 v3 v4 A x1 (HV3.out.keep hb4) HV4.out.at_ (by have := hA27.out; omega) (by have := S1.out; omega) (by omega))
        clear hle
        go_wp2_with fail
        refine CL.out.mono ?_
        rintro e w5 ⟨rfl, rfl⟩
        have HV5 := Lib.hid (HV3.out.keep hb4)
        have hb5 := Below.refl w4.heap.size w4
        clear HV3 HV4 HN b34
        obtain ⟨w5, hw5⟩ : ∃ w5, w5 = w4 := ⟨w4, rfl⟩
        obtain ⟨v5, hv5⟩ : ∃ v5, v5 = v3 := ⟨v3, rfl⟩
        obtain ⟨A2, hA2'⟩ : ∃ A2, A2 = A := ⟨A, rfl⟩
        have HN : Hid (∀ W, Below w4.heap.size w4 W → NatAt W u10 n) := Lib.hid fun W h => (hn.out.keep (below_seq (below_seq hb3 hb4) h)).at_
        have HV3 := trivial; have HV4 := trivial; have b34 := trivial
        rw [← hA2'] at HV5 hA27
        rw [← hv5] at HV5 ⊢
        rw [← hw5] at HV5 HN B4 hb5 ⊢
        clear hw5 hv5 hA2'
        have hA2 := hA27
        clear CL
      all_goals
        have HX5 : Hid (∀ W, Below w5.heap.size w5 W → NatAt W v5 A2) := Lib.hid fun W h => HV5.out.keep h
        have HN5 : Hid (∀ W, Below w5.heap.size w5 W → NatAt W u10 n) := Lib.hid fun W h => HN.out W (below_seq hb5 h)
        have B5 := below_seq B4 hb5
        have Z := Below.refl w5.heap.size w5
        have CD := Lib.hid (nat_Div w5 v5 u10 A2 n (HX5.out _ Z) (HN5.out _ Z) (by have := hA2.out; omega) (by have := hsn18.out; omega) hn0.out)
        have LA : Hid ((Lib.decDigits A2).length ≤ 2000) := Lib.hid (Nat.le_trans (dec_sz hA2.out) (by omega))
        have LN : Hid ((Lib.decDigits n).length ≤ 2000) := Lib.hid (Nat.le_trans (dec_sz hsn18.out) (by omega))
        clear HV3 HV4 hb3 hb4 b34 HN B4 hbr hn HV5 hb5
        go_wp2_with fail
        refine CD.out.mono ?_
        rintro e w6 ⟨q, r, rfl, hq, hr, z6⟩
        have HQ := Lib.hid hq; have HR := Lib.hid hr
        have CT := Lib.hid (nat_Text w6 v5 A2 (HX5.out _ z6) (by have := hA2.out; omega) (HT.out.keep (below_seq B5 z6)))
        clear hq hr CD
        go_wp2_with fail
        refine CT.out.mono ?_
        rintro e w7 ⟨rfl, hb7⟩
        have z7 := below_seq z6 hb7
        have CG := Lib.hid (ref_GetN_dec w7 A2 LA.out)
        clear CT
        go_wp2_with fail
        refine CG.out.mono ?_
        rintro e w8 ⟨m8, rfl, hm8, hb8⟩
        have z8 := below_seq z7 hb8
        have HM8 := Lib.hid hm8
        have CT := Lib.hid (nat_Text w8 u10 n (HN5.out _ z8) (by have := hsn18.out; omega) (HT.out.keep (below_seq B5 z8)))
        clear hm8 CG
        go_wp2_with fail
        refine CT.out.mono ?_
        rintro e w9 ⟨rfl, hb9⟩
        have z9 := below_seq z8 hb9
        have CG := Lib.hid (ref_GetN_dec w9 n LN.out)
        clear CT
        go_wp2_with fail
        refine CG.out.mono ?_
        rintro e w10 ⟨m10, rfl, hm10, hb10⟩
        have z10 := below_seq z9 hb10
        have CD := Lib.hid (ref_Div w10 m8 m10 A2 n (HM8.out.keep (below_seq hb9 hb10)) hm10 (by have := tdg_dec LA.out; omega) (by have := tdg_dec LN.out; omega) hn0.out)
        clear hm10 CG HM8
        go_wp2_with fail
        refine CD.out.mono ?_
        rintro e w11 ⟨p, o, rfl, hp, ho, hb11⟩
        have y11 := below_seq hb7 (below_seq hb8 (below_seq hb9 (below_seq hb10 hb11)))
        have z11 := below_seq z6 y11
        have lq : Hid ((dgs (A2 / n)).length ≤ 30) := Lib.hid (Nat.le_trans (sz_div A2 n) hA2.out)
        have lr : Hid ((dgs (A2 % n)).length ≤ 30) := Lib.hid (Nat.le_trans (sz_mono (Nat.mod_le A2 n)) hA2.out)
        have tq : Hid ((tdg (A2 / n)).length ≤ 10000) := Lib.hid (Nat.le_trans (tdg_le (Nat.div_le_self A2 n)) (Nat.le_trans (tdg_dec LA.out) (by omega)))
        have tr : Hid ((tdg (A2 % n)).length ≤ 10000) := Lib.hid (Nat.le_trans (tdg_le (Nat.mod_le A2 n)) (Nat.le_trans (tdg_dec LA.out) (by omega)))
        obtain ⟨Q, hQ⟩ : ∃ Q, Q = A2 / n := ⟨_, rfl⟩
        obtain ⟨R, hR⟩ : ∃ R, R = A2 % n := ⟨_, rfl⟩
        rw [← hQ] at hp HQ lq tq; rw [← hR] at ho HR lr tr
        have T1 := Lib.hid (nat_Text w11 q Q (HQ.out.keep y11) (by have := lq.out; omega) (HT.out.keep (below_seq B5 z11)))
        have T2 : Hid (∀ W, Below w11.heap.size w11 W → Calls Tryz.prog 20 #[p] W (Keeps (.string ⟨(Lib.decDigits Q).toArray⟩) W)) := Lib.hid fun W h => ref_N_Text W p Q (hp.keep h) tq.out
        have T3 : Hid (∀ W, Below w11.heap.size w11 W → Calls Tryz.prog 19 #[r] W (Keeps (.string ⟨(Lib.decDigits R).toArray⟩) W)) := Lib.hid fun W h => nat_Text W r R (HR.out.keep (below_seq y11 h)) (by have := lr.out; omega) (HT.out.keep (below_seq B5 (below_seq z11 h)))
        have T4 : Hid (∀ W, Below w11.heap.size w11 W → Calls Tryz.prog 20 #[o] W (Keeps (.string ⟨(Lib.decDigits R).toArray⟩) W)) := Lib.hid fun W h => ref_N_Text W o R (ho.keep h) tr.out
        have B11 := below_seq B5 z11
        clear hp ho CD HQ HR hQ hR z6 z7 z8 z9 z10 hb7 hb8 hb9 hb10 hb11 y11 z11 B5
        go_wp2_with fail
        refine T1.out.mono ?_
        rintro e w12 ⟨rfl, x12⟩
        go_wp2_with fail
        refine (T2.out _ x12).mono ?_
        rintro e w13 ⟨rfl, hb13⟩
        have x13 := below_seq x12 hb13
        go_wp2_with fail
        refine (T3.out _ x13).mono ?_
        rintro e w14 ⟨rfl, hb14⟩
        have x14 := below_seq x13 hb14
        go_wp2_with fail
        refine (T4.out _ x14).mono ?_
        rintro e w15 ⟨rfl, hb15⟩
        have x15 := below_seq x14 hb15
        go_wp2_with fail
        go_ret
        exact ⟨rfl, below_seq B11 x15⟩
end Go.Proofs.YtegpelhgkoaaoaaGreatDoor
