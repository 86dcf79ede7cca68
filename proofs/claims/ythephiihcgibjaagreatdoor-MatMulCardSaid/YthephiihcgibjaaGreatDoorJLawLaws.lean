/- The law MatLaws: products of three matrices in any order; turned about they are turned; the inverse of the inverse is it. -/
import Derived.Test.YthephiihcgibjaaGreatDoorJLawSolve
set_option linter.unusedVariables false
set_option linter.unusedSimpArgs false
namespace Vic
open Go Go.RowKit
theorem turn_mul (n : Nat) (A B : Mtx) (i k : Nat) : mulM n (turnM B) (turnM A) k i = mulM n A B i k := by
  unfold mulM turnM
  exact sigma_congr fun j _ => Rat.mul_comm _ _
theorem fits_mulM {L n : Nat} {A B : Mtx} (ha : FitsM L n n A) (hb : FitsM L n n B) : FitsM (n * (2 * L + 1) + 2) n n (mulM n A B) := fun i k hi hk => fits_sigma (fun j hj => ha i j hi hj) (fun j hj => hb j k hj hk)
end Vic
namespace Go.Proofs.YthephiihcgibjaaGreatDoor
open Go.RowKit Vic
theorem made_read (w : World) (ht : Tab w) (n : Nat) (h0 : 0 < n) (h1 : n ≤ 9) (sb cs : Nat) (tb tc : Nat → Nat) (tx : Nat → Nat → List UInt8) (hcs : n ≤ cs) (ho : ∀ i, i < n → w.cell? ⟨sb, 0 + i, none⟩ = some (.slice (some ⟨tb i, 0, none⟩) n (tc i))) (htc : ∀ i, i < n → n ≤ tc i)
    (hx : ∀ i j, i < n → j < n → w.cell? ⟨tb i, 0 + j, none⟩ = some (.string ⟨(tx i j).toArray⟩)) (hgd : ∀ i j, i < n → j < n → FracGood (tx i j) ∧ (tx i j).length ≤ 20000) :
    ∃ M : Mtx, FitsM 2000 n n M ∧ Calls Tryz.prog 25 #[.slice (some ⟨sb, 0, none⟩) n cs] w (fun e w' => ∃ z, e = .returned (.tuple #[.pointer (some ⟨z, 0, none⟩), .bool true]) ∧ MatR w' (.pointer (some ⟨z, 0, none⟩)) n n M ∧ Below w.heap.size w w') :=
  ⟨fun i j => fracOf (tx i j), fun i j hi hj => good_fits (hgd i j hi hj).1, (mat_New_all w sb 0 n n cs tb (fun _ => 0) tc tx ho hx (fun i j hi hj => ⟨(hgd i j hi hj).1, Nat.le_trans (hgd i j hi hj).2 (by omega)⟩) ht (by omega) h0 (by omega) h0 hcs htc).mono fun _ _ h => h.read⟩
set_option maxRecDepth 100000 in
set_option maxHeartbeats 16000000 in
theorem law_MatLaws (w : World) (ht : Tab w) (a : Int) (va vb vc : Value) (us vs ws : List (List UInt8)) (hA : StrsArg w va us) (hB : StrsArg w vb vs) (hC : StrsArg w vc ws) (hus : us.length ≤ 9223372036854775807) (hvs : vs.length ≤ 9223372036854775807) (hws : ws.length ≤ 9223372036854775807) (hub : ∀ y ∈ us, y.length ≤ 9223372036854775807) (hvb : ∀ y ∈ vs, y.length ≤ 9223372036854775807) (hwb : ∀ y ∈ ws, y.length ≤ 9223372036854775807)
    (ha1 : -9223372036854775808 ≤ a) (ha2 : a ≤ 9223372036854775807) :
    Calls Tryz.prog 10 #[.int .i64 a, va, vb, vc] w (Keeps (.bool true) w) := by
  obtain ⟨rn, hrn⟩ : ∃ r, a.tmod 4 = r := ⟨_, rfl⟩
  obtain ⟨n, mn, hmn, hon, h0n, h1n⟩ : ∃ n m : Nat, (rn + 4).tmod 4 = (m : Int) ∧ (1 : Int) + (m : Int) = (n : Int) ∧ 0 < n ∧ n ≤ 4 := by
    have a1 := Int.lt_tmod_of_pos a (show (0 : Int) < 4 by omega)
    have a2 := Int.tmod_lt_of_pos a (show (0 : Int) < 4 by omega)
    have a3 := Int.tmod_nonneg (a := rn + 4) 4 (by omega)
    have a4 := Int.tmod_lt_of_pos (rn + 4) (show (0 : Int) < 4 by omega)
    exact ⟨1 + ((rn + 4).tmod 4).toNat, ((rn + 4).tmod 4).toNat, by omega, by omega, by omega, by omega⟩
  have hln : -3 ≤ rn ∧ rn ≤ 3 := by
    have a1 := Int.lt_tmod_of_pos a (show (0 : Int) < 4 by omega)
    have a2 := Int.tmod_lt_of_pos a (show (0 : Int) < 4 by omega)
    omega
  have CB := Lib.hid (law_begun w ht)
  have HT := Lib.hid ht
  have CMA : Hid (∀ W, Below w.heap.size w W → Calls Tryz.prog 24 #[.int .i64 n, .int .i64 n, va] W (TextsMade n n W)) := Lib.hid fun W h => law_matrix W n n va us (hA.keep h) hus hub (by omega) h0n (by omega) h0n
  have CMB : Hid (∀ W, Below w.heap.size w W → Calls Tryz.prog 24 #[.int .i64 n, .int .i64 n, vb] W (TextsMade n n W)) := Lib.hid fun W h => law_matrix W n n vb vs (hB.keep h) hvs hvb (by omega) h0n (by omega) h0n
  have CMC : Hid (∀ W, Below w.heap.size w W → Calls Tryz.prog 24 #[.int .i64 n, .int .i64 n, vc] W (TextsMade n n W)) := Lib.hid fun W h => law_matrix W n n vc ws (hC.keep h) hws hwb (by omega) h0n (by omega) h0n
  obtain ⟨A1, n1, q1, rfl⟩ : ∃ A n c, va = .slice A n c := by obtain ⟨A, c, h, _⟩ := hA; exact ⟨_, _, _, h⟩
  obtain ⟨A2, n2, q2, rfl⟩ : ∃ A n c, vb = .slice A n c := by obtain ⟨A, c, h, _⟩ := hB; exact ⟨_, _, _, h⟩
  obtain ⟨A3, n3, q3, rfl⟩ : ∃ A n c, vc = .slice A n c := by obtain ⟨A, c, h, _⟩ := hC; exact ⟨_, _, _, h⟩
  have h5 : 5 ^ n ≤ 5 ^ 4 := Nat.pow_le_pow_right (by omega) h1n
  have hL5 : 2000 * 5 ^ n ≤ 1250000 := Nat.le_trans (Nat.mul_le_mul_left _ h5) (by decide)
  have hL6 : 1250000 * 5 ^ n ≤ 1000000000 := Nat.le_trans (Nat.mul_le_mul_left _ h5) (by decide)
  have HL5 := Lib.hid hL5; have HL6 := Lib.hid hL6
  clear hA hB hC hus hvs hws hub hvb hwb ht h5 hL5 hL6
  go_enter Tryz.func10, Tryz.ntmps10
  go_wp2_with fail
  refine CB.out.mono ?_
  rintro e w1 ⟨rfl, hb1'⟩
  clear CB
  have CM1 := Lib.hid (CMA.out w1 hb1')
  go_wp2_with fail
  go_at_call 24
  refine CM1.out.mono ?_
  rintro e wmA ⟨sbA, csA, tb, tc, tx, rfl, hcs, ho, htc, hx, hgd, hbmA⟩
  have Bm := below_seq hb1' hbmA
  obtain ⟨MA, hFA, CN0⟩ := made_read wmA (HT.out.keep Bm) n h0n (by omega) sbA csA tb tc tx hcs ho htc hx hgd
  have CN := Lib.hid CN0; have HFA := Lib.hid hFA
  clear ho htc hx hgd CM1 hcs hFA CN0 CMA
  go_wp2_with fail
  go_at_call 25
  refine CN.out.mono ?_
  rintro e wA ⟨mA, rfl, hmA, hbA⟩
  have BA := below_seq Bm hbA
  have HMA : Hid (∀ W, Below wA.heap.size wA W → MatR W (.pointer (some ⟨mA, 0, none⟩)) n n MA) := Lib.hid fun W h => hmA.keep h
  have ywA := below_seq hbmA hbA
  clear CN hmA Bm hbmA hbA
  have CM1 := Lib.hid (CMB.out wA BA)
  go_wp2_with fail
  go_at_call 24
  refine CM1.out.mono ?_
  rintro e wmB ⟨sbB, csB, tb, tc, tx, rfl, hcs, ho, htc, hx, hgd, hbmB⟩
  have Bm := below_seq BA hbmB
  obtain ⟨MB, hFB, CN0⟩ := made_read wmB (HT.out.keep Bm) n h0n (by omega) sbB csB tb tc tx hcs ho htc hx hgd
  have CN := Lib.hid CN0; have HFB := Lib.hid hFB
  clear ho htc hx hgd CM1 hcs hFB CN0 CMB
  go_wp2_with fail
  go_at_call 25
  refine CN.out.mono ?_
  rintro e wB ⟨mB, rfl, hmB, hbB⟩
  have BB := below_seq Bm hbB
  have HMB : Hid (∀ W, Below wB.heap.size wB W → MatR W (.pointer (some ⟨mB, 0, none⟩)) n n MB) := Lib.hid fun W h => hmB.keep h
  have ywB := below_seq hbmB hbB
  clear CN hmB Bm hbmB hbB
  have CM1 := Lib.hid (CMC.out wB BB)
  go_wp2_with fail
  go_at_call 24
  refine CM1.out.mono ?_
  rintro e wmC ⟨sbC, csC, tb, tc, tx, rfl, hcs, ho, htc, hx, hgd, hbmC⟩
  have Bm := below_seq BB hbmC
  obtain ⟨MC, hFC, CN0⟩ := made_read wmC (HT.out.keep Bm) n h0n (by omega) sbC csC tb tc tx hcs ho htc hx hgd
  have CN := Lib.hid CN0; have HFC := Lib.hid hFC
  clear ho htc hx hgd CM1 hcs hFC CN0 CMC
  go_wp2_with fail
  go_at_call 25
  refine CN.out.mono ?_
  rintro e wC ⟨mC, rfl, hmC, hbC⟩
  have BC := below_seq Bm hbC
  have HMC : Hid (∀ W, Below wC.heap.size wC W → MatR W (.pointer (some ⟨mC, 0, none⟩)) n n MC) := Lib.hid fun W h => hmC.keep h
  have ywC := below_seq hbmC hbC
  clear CN hmC Bm hbmC hbC
  have HA : Hid (∀ W, Below wC.heap.size wC W → MatR W (.pointer (some ⟨mA, 0, none⟩)) n n MA) := Lib.hid fun W h => HMA.out W (below_seq (below_seq ywB ywC) h)
  have HB : Hid (∀ W, Below wC.heap.size wC W → MatR W (.pointer (some ⟨mB, 0, none⟩)) n n MB) := Lib.hid fun W h => HMB.out W (below_seq ywC h)
  have HFAB : Hid (FitsM 16006 n n (mulM n MA MB)) := Lib.hid fun i k hi hk => (fits_mulM HFA.out HFB.out i k hi hk).mono (by have := Nat.mul_le_mul_right (2 * 2000 + 1) h1n; omega)
  have HFBC : Hid (FitsM 16006 n n (mulM n MB MC)) := Lib.hid fun i k hi hk => (fits_mulM HFB.out HFC.out i k hi hk).mono (by have := Nat.mul_le_mul_right (2 * 2000 + 1) h1n; omega)
  have HFX : Hid (FitsM 200000 n n (mulM n (mulM n MA MB) MC)) := Lib.hid fun i k hi hk => (fits_mulM HFAB.out (fun i k hi hk => (HFC.out i k hi hk).mono (by omega)) i k hi hk).mono (by have := Nat.mul_le_mul_right (2 * 16006 + 1) h1n; omega)
  have MUL : Hid (∀ W (p q : Nat) (X Y : Mtx), MatR W (.pointer (some ⟨p, 0, none⟩)) n n X → MatR W (.pointer (some ⟨q, 0, none⟩)) n n Y → FitsM 16006 n n X → FitsM 16006 n n Y → Calls Tryz.prog 43 #[.pointer (some ⟨p, 0, none⟩), .pointer (some ⟨q, 0, none⟩)] W (fun e w' => ∃ z, e = .returned (.tuple #[.pointer (some ⟨z, 0, none⟩), .bool true]) ∧ MatR w' (.pointer (some ⟨z, 0, none⟩)) n n (mulM n X Y) ∧ Below W.heap.size W w')) := Lib.hid fun W p q X Y hX hY fX fY => by
    refine (mat_Mul W _ _ n n n 16006 X Y hX hY fX fY h0n h0n h0n (by omega) (by omega) (by omega) (by omega)).mono ?_
    rintro e w' ⟨z, rfl, hz, hb⟩
    obtain ⟨b, rfl⟩ := hz.shape
    exact ⟨b, rfl, hz, hb⟩
  have TRN : Hid (∀ W (p : Nat) (X : Mtx), MatR W (.pointer (some ⟨p, 0, none⟩)) n n X → Calls Tryz.prog 46 #[.pointer (some ⟨p, 0, none⟩)] W (fun e w' => ∃ z, e = .returned (.pointer (some ⟨z, 0, none⟩)) ∧ MatR w' (.pointer (some ⟨z, 0, none⟩)) n n (turnM X) ∧ Below W.heap.size W w')) := Lib.hid fun W p X hX => by
    refine (mat_Turn W _ n n X hX h0n h0n (by omega) (by omega)).mono ?_
    rintro e w' ⟨z, rfl, hz, hb⟩
    obtain ⟨b, rfl⟩ := hz.shape
    exact ⟨b, rfl, hz, hb⟩
  have F1 : Hid (∀ X, FitsM 2000 n n X → FitsM 16006 n n X) := Lib.hid fun X h i k hi hk => (h i k hi hk).mono (by omega)
  clear HMA HMB
  have z10 : Below wC.heap.size wC wC := Below.refl _ _
  have CK := Lib.hid (MUL.out wC mA mB MA MB (HA.out _ z10) (HB.out _ z10) (F1.out _ HFA.out) (F1.out _ HFB.out))
  go_wp2_with fail
  go_at_call 43
  refine CK.out.mono ?_
  rintro e w11 ⟨p11, rfl, hp11, hb11⟩
  have z11 := below_seq z10 hb11
  have HP11 : Hid (∀ W, Below w11.heap.size w11 W → MatR W (.pointer (some ⟨p11, 0, none⟩)) n n (mulM n MA MB)) := Lib.hid fun W h => hp11.keep h
  clear CK hp11
  have CK := Lib.hid (MUL.out w11 mB mC MB MC (HB.out _ z11) (HMC.out _ z11) (F1.out _ HFB.out) (F1.out _ HFC.out))
  go_wp2_with fail
  go_at_call 43
  refine CK.out.mono ?_
  rintro e w12 ⟨p12, rfl, hp12, hb12⟩
  have z12 := below_seq z11 hb12
  have HP12 : Hid (∀ W, Below w12.heap.size w12 W → MatR W (.pointer (some ⟨p12, 0, none⟩)) n n (mulM n MB MC)) := Lib.hid fun W h => hp12.keep h
  clear CK hp12
  have CK := Lib.hid (MUL.out w12 p11 mC (mulM n MA MB) MC (HP11.out _ hb12) (HMC.out _ z12) HFAB.out (F1.out _ HFC.out))
  go_wp2_with fail
  go_at_call 43
  refine CK.out.mono ?_
  rintro e w13 ⟨p13, rfl, hp13, hb13⟩
  have z13 := below_seq z12 hb13
  have HP13 : Hid (∀ W, Below w13.heap.size w13 W → MatR W (.pointer (some ⟨p13, 0, none⟩)) n n (mulM n (mulM n MA MB) MC)) := Lib.hid fun W h => hp13.keep h
  clear CK hp13
  have CK := Lib.hid (MUL.out w13 mA p12 MA (mulM n MB MC) (HA.out _ z13) (HP12.out _ hb13) (F1.out _ HFA.out) HFBC.out)
  go_wp2_with fail
  go_at_call 43
  refine CK.out.mono ?_
  rintro e w14 ⟨p14, rfl, hp14, hb14⟩
  have z14 := below_seq z13 hb14
  have HP14 : Hid (∀ W, Below w14.heap.size w14 W → MatR W (.pointer (some ⟨p14, 0, none⟩)) n n (mulM n MA (mulM n MB MC))) := Lib.hid fun W h => hp14.keep h
  clear CK hp14
  have CK := Lib.hid (TRN.out w14 mB MB (HB.out _ z14))
  go_wp2_with fail
  go_at_call 46
  refine CK.out.mono ?_
  rintro e w15 ⟨p15, rfl, hp15, hb15⟩
  have z15 := below_seq z14 hb15
  have HP15 : Hid (∀ W, Below w15.heap.size w15 W → MatR W (.pointer (some ⟨p15, 0, none⟩)) n n (turnM MB)) := Lib.hid fun W h => hp15.keep h
  clear CK hp15
  have CK := Lib.hid (TRN.out w15 mA MA (HA.out _ z15))
  go_wp2_with fail
  go_at_call 46
  refine CK.out.mono ?_
  rintro e w16 ⟨p16, rfl, hp16, hb16⟩
  have z16 := below_seq z15 hb16
  have HP16 : Hid (∀ W, Below w16.heap.size w16 W → MatR W (.pointer (some ⟨p16, 0, none⟩)) n n (turnM MA)) := Lib.hid fun W h => hp16.keep h
  clear CK hp16
  have CK := Lib.hid (MUL.out w16 p15 p16 (turnM MB) (turnM MA) (HP15.out _ hb16) (HP16.out _ (Below.refl _ _)) (fun i k hi hk => (HFB.out k i hk hi).mono (by omega)) (fun i k hi hk => (HFA.out k i hk hi).mono (by omega)))
  go_wp2_with fail
  go_at_call 43
  refine CK.out.mono ?_
  rintro e w17 ⟨p17, rfl, hp17, hb17⟩
  have z17 := below_seq z16 hb17
  have HP17 : Hid (∀ W, Below w17.heap.size w17 W → MatR W (.pointer (some ⟨p17, 0, none⟩)) n n (mulM n (turnM MB) (turnM MA))) := Lib.hid fun W h => hp17.keep h
  clear CK hp17
  have CI := Lib.hid (mat_Inverse w17 (.pointer (some ⟨mA, 0, none⟩)) n 2000 MA (HA.out _ z17) HFA.out (by omega) (Nat.le_trans HL5.out (by omega)) h0n (by omega))
  go_wp2_with fail
  go_at_call 47
  refine CI.out.mono ?_
  rintro e w18 hinv
  obtain ⟨hb18, hinv⟩ := hinv
  have z18 := below_seq z17 hb18
  clear CI
  rcases hinv with ⟨hrn, rfl⟩ | ⟨hry, iz, rfl, hiz⟩
  · have hb19 : Below w18.heap.size w18 w18 := Below.refl _ _
    obtain ⟨MZ, hMZ⟩ : ∃ X, X = MA := ⟨_, rfl⟩
    have HBK : Hid (∀ W, Below w18.heap.size w18 W → MatR W (.pointer (some ⟨mA, 0, none⟩)) n n MZ) := Lib.hid fun W h => by rw [hMZ]; exact HA.out W (below_seq (below_seq z18 hb19) h)
    have HEQ : Hid (∀ i k, i < n → k < n → MZ i k = MA i k) := Lib.hid fun i k _ _ => by rw [hMZ]
    clear hMZ hrn
    go_wp2_with fail
    have hz19 := below_seq z18 hb19
    have ZW : Hid (∀ W, Below w18.heap.size w18 W → Below w.heap.size w W) := Lib.hid fun W h => below_seq (below_seq BC hz19) h
    have GA : Hid (∀ W, Below w18.heap.size w18 W → MatR W (.pointer (some ⟨mA, 0, none⟩)) n n MA) := Lib.hid fun W h => HA.out W (below_seq hz19 h)
    have G11 : Hid (∀ W, Below w18.heap.size w18 W → MatR W (.pointer (some ⟨p11, 0, none⟩)) n n (mulM n MA MB)) := Lib.hid fun W h => HP11.out W (below_seq (below_seq hb12 (below_seq hb13 (below_seq hb14 (below_seq hb15 (below_seq hb16 (below_seq hb17 (below_seq hb18 hb19))))))) h)
    have G13 : Hid (∀ W, Below w18.heap.size w18 W → MatR W (.pointer (some ⟨p13, 0, none⟩)) n n (mulM n (mulM n MA MB) MC)) := Lib.hid fun W h => HP13.out W (below_seq (below_seq hb14 (below_seq hb15 (below_seq hb16 (below_seq hb17 (below_seq hb18 hb19))))) h)
    have G14 : Hid (∀ W, Below w18.heap.size w18 W → MatR W (.pointer (some ⟨p14, 0, none⟩)) n n (mulM n MA (mulM n MB MC))) := Lib.hid fun W h => HP14.out W (below_seq (below_seq hb15 (below_seq hb16 (below_seq hb17 (below_seq hb18 hb19)))) h)
    have G17 : Hid (∀ W, Below w18.heap.size w18 W → MatR W (.pointer (some ⟨p17, 0, none⟩)) n n (mulM n (turnM MB) (turnM MA))) := Lib.hid fun W h => HP17.out W (below_seq (below_seq hb18 hb19) h)
    clear HP11 HP12 HP13 HP14 HP15 HP16 HP17 HA HB HMC hb11 hb12 hb13 hb14 hb15 hb16 hb17 hb18 hb19 z11 z12 z13 z14 z15 z16 z17 z18 hz19 BA BB BC ywA ywB ywC MUL TRN F1 z10 hb1'
    go_loopw [29] (fun t wx => ∃ j : Nat, t = .int .i64 j ∧ j ≤ n ∧ Below w18.heap.size w18 wx) (fun t _ => n - (intOf t).toNat)
    case atStart => exact ⟨0, rfl, Nat.zero_le _, Below.refl _ _⟩
    case round =>
      obtain ⟨i, rfl, hi, hbx⟩ := hrel
      by_cases hin : i < n
      · have hin' := Int.ofNat_lt.2 hin
        go_wp2_with fail
        go_loopw [30] (fun t wy => ∃ m : Nat, t = .int .i64 m ∧ m ≤ n ∧ Below w18.heap.size w18 wy) (fun t _ => n - (intOf t).toNat)
        case atStart => exact ⟨0, rfl, Nat.zero_le _, hbx⟩
        case round =>
          obtain ⟨k, rfl, hk, hby⟩ := hrel
          by_cases hkn : k < n
          · have hkn' := Int.ofNat_lt.2 hkn
            have a1 : Hid (Fits 200000 (mulM n (mulM n MA MB) MC i k)) := Lib.hid (HFX.out i k hin hkn)
            have a2 : Hid (Fits 16006 (mulM n MA MB i k)) := Lib.hid (HFAB.out i k hin hkn)
            have a3 : Hid (Fits 2000 (MA i k)) := Lib.hid (HFA.out i k hin hkn)
            have e1 : Hid (mulM n MA (mulM n MB MC) i k = mulM n (mulM n MA MB) MC i k) := Lib.hid (mulM_assoc n n MA MB MC i k).symm
            have e2 : Hid (mulM n (turnM MB) (turnM MA) k i = mulM n MA MB i k) := Lib.hid (turn_mul n MA MB i k)
            have e3 := Lib.hid (HEQ.out i k hin hkn)
            have AT : Hid (∀ W (p : Nat) (X : Mtx) (i k : Nat), i < n → k < n → MatR W (.pointer (some ⟨p, 0, none⟩)) n n X → Calls Tryz.prog 45 #[.pointer (some ⟨p, 0, none⟩), .int .i64 i, .int .i64 k] W (Gives (fun z w' => FracPtr w' z (X i k)) W)) := Lib.hid fun W p X i k hi hk h => mat_At W _ n n i k X h hi hk (by omega) (by omega)
            have CA1 := Lib.hid (AT.out wr p13 (mulM n (mulM n MA MB) MC) i k hin hkn (G13.out _ hby))
            go_wp2_with fail
            go_at_call 45
            refine CA1.out.mono ?_
            rintro e u1 ⟨f1, rfl, hf1, hc1⟩
            have x1 := below_seq hby hc1
            skip
            obtain ⟨g1, rfl⟩ := hf1.ptr
            have HF1 := Lib.hid hf1
            have CA2 := Lib.hid (AT.out u1 p14 (mulM n MA (mulM n MB MC)) i k hin hkn (G14.out _ x1))
            clear hf1 CA1
            go_wp2_with fail
            go_at_call 45
            refine CA2.out.mono ?_
            rintro e v1 ⟨d1, rfl, hd1, hv1⟩
            have y1 := below_seq x1 hv1
            rw [e1.out] at hd1
            have CC := Lib.hid (frac_Cmp_same v1 _ _ (mulM n (mulM n MA MB) MC i k) (HF1.out.keep hv1).at_ hd1.at_ (a1.out.mono (by omega)))
            obtain ⟨t1, rfl⟩ := hd1.ptr
            clear hd1 CA2 HF1
            go_wp2_with fail
            go_at_call 30
            refine CC.out.mono ?_
            rintro e s1 ⟨rfl, hs1⟩
            have w1' := below_seq y1 hs1
            clear CC x1 y1 hc1 hv1 hs1
            have CA1 := Lib.hid (AT.out s1 p17 (mulM n (turnM MB) (turnM MA)) k i hkn hin (G17.out _ w1'))
            go_wp2_with fail
            go_at_call 45
            refine CA1.out.mono ?_
            rintro e u2 ⟨f2, rfl, hf2, hc2⟩
            have x2 := below_seq w1' hc2
            rw [e2.out] at hf2
            obtain ⟨g2, rfl⟩ := hf2.ptr
            have HF2 := Lib.hid hf2
            have CA2 := Lib.hid (AT.out u2 p11 (mulM n MA MB) i k hin hkn (G11.out _ x2))
            clear hf2 CA1
            go_wp2_with fail
            go_at_call 45
            refine CA2.out.mono ?_
            rintro e v2 ⟨d2, rfl, hd2, hv2⟩
            have y2 := below_seq x2 hv2
            skip
            have CC := Lib.hid (frac_Cmp_same v2 _ _ (mulM n MA MB i k) (HF2.out.keep hv2).at_ hd2.at_ (a2.out.mono (by omega)))
            obtain ⟨t2, rfl⟩ := hd2.ptr
            clear hd2 CA2 HF2
            go_wp2_with fail
            go_at_call 30
            refine CC.out.mono ?_
            rintro e s2 ⟨rfl, hs2⟩
            have w2' := below_seq y2 hs2
            clear CC x2 y2 hc2 hv2 hs2
            have CA1 := Lib.hid (AT.out s2 mA MZ i k hin hkn (HBK.out _ w2'))
            go_wp2_with fail
            go_at_call 45
            refine CA1.out.mono ?_
            rintro e u3 ⟨f3, rfl, hf3, hc3⟩
            have x3 := below_seq w2' hc3
            rw [e3.out] at hf3
            obtain ⟨g3, rfl⟩ := hf3.ptr
            have HF3 := Lib.hid hf3
            have CA2 := Lib.hid (AT.out u3 mA MA i k hin hkn (GA.out _ x3))
            clear hf3 CA1
            go_wp2_with fail
            go_at_call 45
            refine CA2.out.mono ?_
            rintro e v3 ⟨d3, rfl, hd3, hv3⟩
            have y3 := below_seq x3 hv3
            skip
            have CC := Lib.hid (frac_Cmp_same v3 _ _ (MA i k) (HF3.out.keep hv3).at_ hd3.at_ (a3.out.mono (by omega)))
            obtain ⟨t3, rfl⟩ := hd3.ptr
            clear hd3 CA2 HF3
            go_wp2_with fail
            go_at_call 30
            refine CC.out.mono ?_
            rintro e s3 ⟨rfl, hs3⟩
            have w3' := below_seq y3 hs3
            clear CC x3 y3 hc3 hv3 hs3
            have ZZ := Lib.hid w3'
            clear w1' w2' w3'
            go_wp2_with fail
            go_roundw
            case rel => exact ⟨k + 1, by go_num, by omega, ZZ.out⟩
            case measure => simp [intOf]; omega
          · obtain rfl : k = n := by omega
            go_wp2_with fail
            exact ⟨⟨i + 1, by go_num, by omega, hby⟩, by simp [intOf]; omega⟩
      · obtain rfl : i = n := by omega
        go_wp2_with fail
        go_ret
        exact ⟨rfl, ZW.out _ hbx⟩
  · have HRY := Lib.hid hry
    have HIZ := Lib.hid hiz
    obtain ⟨ib, rfl⟩ := hiz.shape
    have CI2 := Lib.hid (mat_Inverse w18 (.pointer (some ⟨ib, 0, none⟩)) n 1250000 (invM n MA) HIZ.out (fun i k hi hk => (fits_inv HFA.out (by omega) i k hi hk).mono HL5.out) (by omega) HL6.out h0n (by omega))
    clear hry hiz
    go_wp2_with fail
    go_at_call 47
    refine CI2.out.mono ?_
    rintro e w19 hinv
    obtain ⟨hb19, hinv⟩ := hinv
    have hii := inv_inv HRY.out
    rcases hinv with ⟨hrn, rfl⟩ | ⟨_, iz2, rfl, hiz2⟩
    · exact absurd hii.1 hrn
    · obtain ⟨ic, rfl⟩ := hiz2.shape
      obtain ⟨MZ, hMZ⟩ : ∃ X, X = invM n (invM n MA) := ⟨_, rfl⟩
      have HBK : Hid (∀ W, Below w19.heap.size w19 W → MatR W (.pointer (some ⟨ic, 0, none⟩)) n n MZ) := Lib.hid fun W h => by rw [hMZ]; exact hiz2.keep h
      have HEQ : Hid (∀ i k, i < n → k < n → MZ i k = MA i k) := Lib.hid fun i k hi hk => by rw [hMZ]; exact hii.2 i k hi hk
      clear hMZ hiz2 hii CI2
      go_wp2_with fail
      have hz19 := below_seq z18 hb19
      have ZW : Hid (∀ W, Below w19.heap.size w19 W → Below w.heap.size w W) := Lib.hid fun W h => below_seq (below_seq BC hz19) h
      have GA : Hid (∀ W, Below w19.heap.size w19 W → MatR W (.pointer (some ⟨mA, 0, none⟩)) n n MA) := Lib.hid fun W h => HA.out W (below_seq hz19 h)
      have G11 : Hid (∀ W, Below w19.heap.size w19 W → MatR W (.pointer (some ⟨p11, 0, none⟩)) n n (mulM n MA MB)) := Lib.hid fun W h => HP11.out W (below_seq (below_seq hb12 (below_seq hb13 (below_seq hb14 (below_seq hb15 (below_seq hb16 (below_seq hb17 (below_seq hb18 hb19))))))) h)
      have G13 : Hid (∀ W, Below w19.heap.size w19 W → MatR W (.pointer (some ⟨p13, 0, none⟩)) n n (mulM n (mulM n MA MB) MC)) := Lib.hid fun W h => HP13.out W (below_seq (below_seq hb14 (below_seq hb15 (below_seq hb16 (below_seq hb17 (below_seq hb18 hb19))))) h)
      have G14 : Hid (∀ W, Below w19.heap.size w19 W → MatR W (.pointer (some ⟨p14, 0, none⟩)) n n (mulM n MA (mulM n MB MC))) := Lib.hid fun W h => HP14.out W (below_seq (below_seq hb15 (below_seq hb16 (below_seq hb17 (below_seq hb18 hb19)))) h)
      have G17 : Hid (∀ W, Below w19.heap.size w19 W → MatR W (.pointer (some ⟨p17, 0, none⟩)) n n (mulM n (turnM MB) (turnM MA))) := Lib.hid fun W h => HP17.out W (below_seq (below_seq hb18 hb19) h)
      clear HP11 HP12 HP13 HP14 HP15 HP16 HP17 HA HB HMC hb11 hb12 hb13 hb14 hb15 hb16 hb17 hb18 hb19 z11 z12 z13 z14 z15 z16 z17 z18 hz19 BA BB BC ywA ywB ywC MUL TRN F1 z10 hb1'
      go_loopw [29] (fun t wx => ∃ j : Nat, t = .int .i64 j ∧ j ≤ n ∧ Below w19.heap.size w19 wx) (fun t _ => n - (intOf t).toNat)
      case atStart => exact ⟨0, rfl, Nat.zero_le _, Below.refl _ _⟩
      case round =>
        obtain ⟨i, rfl, hi, hbx⟩ := hrel
        by_cases hin : i < n
        · have hin' := Int.ofNat_lt.2 hin
          go_wp2_with fail
          go_loopw [30] (fun t wy => ∃ m : Nat, t = .int .i64 m ∧ m ≤ n ∧ Below w19.heap.size w19 wy) (fun t _ => n - (intOf t).toNat)
          case atStart => exact ⟨0, rfl, Nat.zero_le _, hbx⟩
          case round =>
            obtain ⟨k, rfl, hk, hby⟩ := hrel
            by_cases hkn : k < n
            · have hkn' := Int.ofNat_lt.2 hkn
              have a1 : Hid (Fits 200000 (mulM n (mulM n MA MB) MC i k)) := Lib.hid (HFX.out i k hin hkn)
              have a2 : Hid (Fits 16006 (mulM n MA MB i k)) := Lib.hid (HFAB.out i k hin hkn)
              have a3 : Hid (Fits 2000 (MA i k)) := Lib.hid (HFA.out i k hin hkn)
              have e1 : Hid (mulM n MA (mulM n MB MC) i k = mulM n (mulM n MA MB) MC i k) := Lib.hid (mulM_assoc n n MA MB MC i k).symm
              have e2 : Hid (mulM n (turnM MB) (turnM MA) k i = mulM n MA MB i k) := Lib.hid (turn_mul n MA MB i k)
              have e3 := Lib.hid (HEQ.out i k hin hkn)
              have AT : Hid (∀ W (p : Nat) (X : Mtx) (i k : Nat), i < n → k < n → MatR W (.pointer (some ⟨p, 0, none⟩)) n n X → Calls Tryz.prog 45 #[.pointer (some ⟨p, 0, none⟩), .int .i64 i, .int .i64 k] W (Gives (fun z w' => FracPtr w' z (X i k)) W)) := Lib.hid fun W p X i k hi hk h => mat_At W _ n n i k X h hi hk (by omega) (by omega)
              have CA1 := Lib.hid (AT.out wr p13 (mulM n (mulM n MA MB) MC) i k hin hkn (G13.out _ hby))
              go_wp2_with fail
              go_at_call 45
              refine CA1.out.mono ?_
              rintro e u1 ⟨f1, rfl, hf1, hc1⟩
              have x1 := below_seq hby hc1
              skip
              obtain ⟨g1, rfl⟩ := hf1.ptr
              have HF1 := Lib.hid hf1
              have CA2 := Lib.hid (AT.out u1 p14 (mulM n MA (mulM n MB MC)) i k hin hkn (G14.out _ x1))
              clear hf1 CA1
              go_wp2_with fail
              go_at_call 45
              refine CA2.out.mono ?_
              rintro e v1 ⟨d1, rfl, hd1, hv1⟩
              have y1 := below_seq x1 hv1
              rw [e1.out] at hd1
              have CC := Lib.hid (frac_Cmp_same v1 _ _ (mulM n (mulM n MA MB) MC i k) (HF1.out.keep hv1).at_ hd1.at_ (a1.out.mono (by omega)))
              obtain ⟨t1, rfl⟩ := hd1.ptr
              clear hd1 CA2 HF1
              go_wp2_with fail
              go_at_call 30
              refine CC.out.mono ?_
              rintro e s1 ⟨rfl, hs1⟩
              have w1' := below_seq y1 hs1
              clear CC x1 y1 hc1 hv1 hs1
              have CA1 := Lib.hid (AT.out s1 p17 (mulM n (turnM MB) (turnM MA)) k i hkn hin (G17.out _ w1'))
              go_wp2_with fail
              go_at_call 45
              refine CA1.out.mono ?_
              rintro e u2 ⟨f2, rfl, hf2, hc2⟩
              have x2 := below_seq w1' hc2
              rw [e2.out] at hf2
              obtain ⟨g2, rfl⟩ := hf2.ptr
              have HF2 := Lib.hid hf2
              have CA2 := Lib.hid (AT.out u2 p11 (mulM n MA MB) i k hin hkn (G11.out _ x2))
              clear hf2 CA1
              go_wp2_with fail
              go_at_call 45
              refine CA2.out.mono ?_
              rintro e v2 ⟨d2, rfl, hd2, hv2⟩
              have y2 := below_seq x2 hv2
              skip
              have CC := Lib.hid (frac_Cmp_same v2 _ _ (mulM n MA MB i k) (HF2.out.keep hv2).at_ hd2.at_ (a2.out.mono (by omega)))
              obtain ⟨t2, rfl⟩ := hd2.ptr
              clear hd2 CA2 HF2
              go_wp2_with fail
              go_at_call 30
              refine CC.out.mono ?_
              rintro e s2 ⟨rfl, hs2⟩
              have w2' := below_seq y2 hs2
              clear CC x2 y2 hc2 hv2 hs2
              have CA1 := Lib.hid (AT.out s2 ic MZ i k hin hkn (HBK.out _ w2'))
              go_wp2_with fail
              go_at_call 45
              refine CA1.out.mono ?_
              rintro e u3 ⟨f3, rfl, hf3, hc3⟩
              have x3 := below_seq w2' hc3
              rw [e3.out] at hf3
              obtain ⟨g3, rfl⟩ := hf3.ptr
              have HF3 := Lib.hid hf3
              have CA2 := Lib.hid (AT.out u3 mA MA i k hin hkn (GA.out _ x3))
              clear hf3 CA1
              go_wp2_with fail
              go_at_call 45
              refine CA2.out.mono ?_
              rintro e v3 ⟨d3, rfl, hd3, hv3⟩
              have y3 := below_seq x3 hv3
              skip
              have CC := Lib.hid (frac_Cmp_same v3 _ _ (MA i k) (HF3.out.keep hv3).at_ hd3.at_ (a3.out.mono (by omega)))
              obtain ⟨t3, rfl⟩ := hd3.ptr
              clear hd3 CA2 HF3
              go_wp2_with fail
              go_at_call 30
              refine CC.out.mono ?_
              rintro e s3 ⟨rfl, hs3⟩
              have w3' := below_seq y3 hs3
              clear CC x3 y3 hc3 hv3 hs3
              have ZZ := Lib.hid w3'
              clear w1' w2' w3'
              go_wp2_with fail
              go_roundw
              case rel => exact ⟨k + 1, by go_num, by omega, ZZ.out⟩
              case measure => simp [intOf]; omega
            · obtain rfl : k = n := by omega
              go_wp2_with fail
              exact ⟨⟨i + 1, by go_num, by omega, hby⟩, by simp [intOf]; omega⟩
        · obtain rfl : i = n := by omega
          go_wp2_with fail
          go_ret
          exact ⟨rfl, ZW.out _ hbx⟩
end Go.Proofs.YthephiihcgibjaaGreatDoor
