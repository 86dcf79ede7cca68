/- The law NatGcd: the greatest measure of products of one number. -/
import Derived.Test.YtegpelhgkoaaoaaGreatDoorJWalkH
import Derived.Test.YtegpelhgkoaaoaaGreatDoorJWalkL
set_option linter.unusedVariables false
set_option linter.unusedSimpArgs false
namespace Vic
open Go Go.RowKit
theorem sz_two {k : Nat} (h : k ≤ 127) : sz (2 ^ k) ≤ 4 := digs_length_le (B := 4294967296) (by omega) (Nat.lt_of_le_of_lt (Nat.pow_le_pow_right (by omega) h) (by decide))
end Vic
namespace Go.Proofs.YtegpelhgkoaaoaaGreatDoor
open Go.RowKit Vic

theorem nat_Cmp_same {w : World} {u v : Value} {n : Nat} (ha : NatAt w u n) (hb : NatAt w v n) (hl : (dgs n).length ≤ 1000000000000) : Calls Tryz.prog 58 #[u, v] w (Rets (.int .i64 0) w) := by
  have := nat_Cmp w u v n n ha hb hl hl
  rwa [cmpI_eq rfl] at this

set_option maxRecDepth 100000 in
set_option maxHeartbeats 8000000 in
theorem law_NatGcd (w : World) (ht : Tab w) (l1 l2 l3 : List UInt8) (kk : Int) (hl1 : l1.length ≤ 9223372036854775807) (hl2 : l2.length ≤ 9223372036854775807) (hl3 : l3.length ≤ 9223372036854775807) (h1 : -9223372036854775808 ≤ kk) (h2 : kk ≤ 9223372036854775807) :
    Calls Tryz.prog 12 #[.string ⟨l1.toArray⟩, .string ⟨l2.toArray⟩, .string ⟨l3.toArray⟩, .int .i64 kk] w (Keeps (.bool true) w) := by
  have CB := Lib.hid (law_begun w ht)
  have CN1 := Lib.hid (fun wr => law_N wr l1 hl1)
  have CN2 := Lib.hid (fun wr => law_N wr l2 hl2)
  have CN3 := Lib.hid (fun wr => law_N wr l3 hl3)
  obtain ⟨k, hk⟩ : ∃ k : Nat, (k : Int) = kk % 100 := ⟨(kk % 100).toNat, by omega⟩
  have hk100 : k < 100 := by omega
  have e1 : ((wrap64 (kk.tmod 100 + 100)).tmod 100) = (k : Int) := by
    have h5 : -100 < kk.tmod 100 ∧ kk.tmod 100 < 100 := ⟨Int.lt_tmod_of_pos kk (by omega), Int.tmod_lt_of_pos kk (by omega)⟩
    rw [show wrap64 (kk.tmod 100 + 100) = kk.tmod 100 + 100 by unfold wrap64; omega, Int.tmod_eq_emod_of_nonneg (by omega), hk, Int.tmod_eq_emod]
    split <;> omega
  clear ht hl1 hl2 hl3 hk
  go_enter Tryz.func12, Tryz.ntmps12
  go_wp2_with fail
  refine CB.out.mono ?_
  rintro e w1 ⟨rfl, hb1⟩
  go_wp2_with fail
  refine (CN1.out _).mono ?_
  rintro e w2 ⟨a, ra, n, rfl, ha, _, hn, hb2⟩
  go_wp2_with fail
  refine (CN2.out _).mono ?_
  rintro e w3 ⟨b, rb, m, rfl, hb, _, hm, hb3⟩
  go_wp2_with fail
  refine (CN3.out _).mono ?_
  rintro e w4 ⟨c, rc, p, rfl, hc, _, hp, hb4⟩
  have B4 := below_seq hb1 (below_seq hb2 (below_seq hb3 hb4))
  have HA : Hid (∀ W, Below w4.heap.size w4 W → NatAt W a n) := Lib.hid fun W h => (((ha.keep hb3).keep hb4).keep h).at_
  have HM : Hid (∀ W, Below w4.heap.size w4 W → NatAt W b m) := Lib.hid fun W h => ((hb.keep hb4).keep h).at_
  have HC : Hid (∀ W, Below w4.heap.size w4 W → NatAt W c p) := Lib.hid fun W h => (hc.keep h).at_
  have SN : Hid ((dgs n).length ≤ 13) := Lib.hid (sz_120 hn)
  have SM : Hid ((dgs m).length ≤ 13) := Lib.hid (sz_120 hm)
  have SP : Hid ((dgs p).length ≤ 13) := Lib.hid (sz_120 hp)
  have hg0 : Nat.gcd n m < 10 ^ 120 := gcd_120 hn hm
  obtain ⟨g, hg⟩ : ∃ g, g = Nat.gcd n m := ⟨_, rfl⟩
  have SG : Hid ((dgs g).length ≤ 13) := Lib.hid (sz_120 (hg ▸ hg0))
  have S2 : Hid ((dgs (2 ^ k)).length ≤ 4) := Lib.hid (sz_two (by omega))
  have SNP : Hid ((dgs (n * p)).length ≤ 30) := Lib.hid (len_mul SN.out SP.out (by omega))
  have SMP : Hid ((dgs (m * p)).length ≤ 30) := Lib.hid (len_mul SM.out SP.out (by omega))
  have SGP : Hid ((dgs (g * p)).length ≤ 30) := Lib.hid (len_mul SG.out SP.out (by omega))
  have SNK : Hid ((dgs (n * 2 ^ k)).length ≤ 30) := Lib.hid (len_mul SN.out S2.out (by omega))
  have SMK : Hid ((dgs (m * 2 ^ k)).length ≤ 30) := Lib.hid (len_mul SM.out S2.out (by omega))
  have SGK : Hid ((dgs (g * 2 ^ k)).length ≤ 30) := Lib.hid (len_mul SG.out S2.out (by omega))
  have E1 : Hid (Nat.gcd (n * p) (m * p) = g * p) := Lib.hid (by rw [hg]; exact Nat.gcd_mul_right n p m)
  have E2 : Hid (Nat.gcd (n * 2 ^ k) (m * 2 ^ k) = g * 2 ^ k) := Lib.hid (by rw [hg]; exact Nat.gcd_mul_right n (2 ^ k) m)
  have E3 : Hid (Nat.gcd m n = g) := Lib.hid (by rw [hg]; exact Nat.gcd_comm m n)
  have E4 : Hid (Nat.gcd n m = g) := Lib.hid hg.symm
  have NIL : Hid (∀ W, NatAt W (.pointer none) 0) := Lib.hid fun W => .inl ⟨rfl, rfl⟩
  clear ha hb hc hn hm hp hb1 hb2 hb3 hb4 hg hg0
  have Z := Below.refl w4.heap.size w4
  have HK : Hid (k ≤ 100000) := Lib.hid (by omega)
  have C0 := Lib.hid (nat_Gcd w4 a b n m (HA.out _ Z) (HM.out _ Z) (by have := SN.out; omega) (by have := SM.out; omega))
  go_wp2_with fail
  refine C0.out.mono ?_
  rintro e w5 ⟨v5, rfl, h5, z5⟩
  rw [E4.out] at h5
  have HG : Hid (∀ W, Below w5.heap.size w5 W → NatAt W v5 g) := Lib.hid fun W h => h5.keep h
  clear h5 C0
  have C1 := Lib.hid (nat_Mul w5 a c n p (HA.out _ z5) (HC.out _ z5) (by have := SN.out; omega) (by have := SP.out; omega))
  go_wp2_with fail
  refine C1.out.mono ?_
  rintro e w6 ⟨v6, rfl, h6, hb6⟩
  have z6 := below_seq z5 hb6
  have H6 := Lib.hid h6
  clear h6 C1
  have C2 := Lib.hid (nat_Mul w6 b c m p (HM.out _ z6) (HC.out _ z6) (by have := SM.out; omega) (by have := SP.out; omega))
  go_wp2_with fail
  refine C2.out.mono ?_
  rintro e w7 ⟨v7, rfl, h7, hb7⟩
  have z7 := below_seq z6 hb7
  have y7 := below_seq hb6 hb7
  have C3 := Lib.hid (nat_Gcd w7 v6 v7 (n * p) (m * p) (H6.out.keep hb7) h7 (by have := SNP.out; omega) (by have := SMP.out; omega))
  clear h7 C2 H6
  go_wp2_with fail
  refine C3.out.mono ?_
  rintro e w8 ⟨v8, rfl, h8, hb8⟩
  rw [E1.out] at h8
  have z8 := below_seq z7 hb8
  have y8 := below_seq y7 hb8
  have H8 := Lib.hid h8
  clear h8 C3
  have C4 := Lib.hid (nat_Mul w8 v5 c g p (HG.out _ y8) (HC.out _ z8) (by have := SG.out; omega) (by have := SP.out; omega))
  go_wp2_with fail
  refine C4.out.mono ?_
  rintro e w9 ⟨v9, rfl, h9, hb9⟩
  have z9 := below_seq z8 hb9
  have y9 := below_seq y8 hb9
  have C5 := Lib.hid (nat_Cmp_same (H8.out.keep hb9) h9 (by have := SGP.out; omega))
  clear h9 C4 H8
  go_wp2_with fail
  refine C5.out.mono ?_
  rintro e w' ⟨rfl, rfl⟩
  have C6 := Lib.hid (nat_Shl_pos w9 a n k (HA.out _ z9) (by have := SN.out; omega) HK.out)
  go_wp2_with fail
  refine C6.out.mono ?_
  rintro e w10 ⟨v10, rfl, h10, hb10⟩
  have z10 := below_seq z9 hb10
  have y10 := below_seq y9 hb10
  have H10 := Lib.hid h10
  clear h10 C6 C5
  have C7 := Lib.hid (nat_Shl_pos w10 b m k (HM.out _ z10) (by have := SM.out; omega) HK.out)
  go_wp2_with fail
  refine C7.out.mono ?_
  rintro e w11 ⟨v11, rfl, h11, hb11⟩
  have z11 := below_seq z10 hb11
  have y11 := below_seq y10 hb11
  have C8 := Lib.hid (nat_Gcd w11 v10 v11 (n * 2 ^ k) (m * 2 ^ k) (H10.out.keep hb11) h11 (by have := SNK.out; omega) (by have := SMK.out; omega))
  clear h11 C7 H10
  go_wp2_with fail
  refine C8.out.mono ?_
  rintro e w12 ⟨v12, rfl, h12, hb12⟩
  rw [E2.out] at h12
  have z12 := below_seq z11 hb12
  have y12 := below_seq y11 hb12
  have H12 := Lib.hid h12
  clear h12 C8
  have C9 := Lib.hid (nat_Shl_pos w12 v5 g k (HG.out _ y12) (by have := SG.out; omega) HK.out)
  go_wp2_with fail
  refine C9.out.mono ?_
  rintro e w13 ⟨v13, rfl, h13, hb13⟩
  have z13 := below_seq z12 hb13
  have y13 := below_seq y12 hb13
  have C10 := Lib.hid (nat_Cmp_same (H12.out.keep hb13) h13 (by have := SGK.out; omega))
  clear h13 C9 H12
  go_wp2_with fail
  refine C10.out.mono ?_
  rintro e w' ⟨rfl, rfl⟩
  have C11 := Lib.hid (nat_Gcd w13 b a m n (HM.out _ z13) (HA.out _ z13) (by have := SM.out; omega) (by have := SN.out; omega))
  go_wp2_with fail
  refine C11.out.mono ?_
  rintro e w14 ⟨v14, rfl, h14, hb14⟩
  rw [E3.out] at h14
  have z14 := below_seq z13 hb14
  have y14 := below_seq y13 hb14
  have C12 := Lib.hid (nat_Cmp_same (HG.out _ y14) h14 (by have := SG.out; omega))
  clear h14 C11 C10
  go_wp2_with fail
  refine C12.out.mono ?_
  rintro e w' ⟨rfl, rfl⟩
  have C13 := Lib.hid (nat_Gcd w14 a (.pointer none) n 0 (HA.out _ z14) (NIL.out _) (by have := SN.out; omega) (by rw [show dgs 0 = [] from digs_zero _]; simp))
  go_wp2_with fail
  refine C13.out.mono ?_
  rintro e w15 ⟨v15, rfl, h15, hb15⟩
  rw [Nat.gcd_zero_right] at h15
  have z15 := below_seq z14 hb15
  have C14 := Lib.hid (nat_Cmp_same h15 (HA.out _ z15) (by have := SN.out; omega))
  clear h15 C13 C12
  go_wp2_with fail
  refine C14.out.mono ?_
  rintro e w' ⟨rfl, rfl⟩
  go_wp2_with fail
  go_ret
  exact ⟨rfl, below_seq B4 z15⟩
end Go.Proofs.YtegpelhgkoaaoaaGreatDoor
