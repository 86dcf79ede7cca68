/- The law NatOwn: numbers that were reckoned with are as they were. -/
import Derived.Test.YtegpelhgkoaaoaaGreatDoorJWalkH
import Derived.Test.YtegpelhgkoaaoaaGreatDoorJWalkL
set_option linter.unusedVariables false
set_option linter.unusedSimpArgs false
namespace Go.Proofs.YtegpelhgkoaaoaaGreatDoor
open Go.RowKit Vic

set_option maxRecDepth 100000 in
set_option maxHeartbeats 8000000 in
theorem law_NatOwn (w : World) (ht : Tab w) (l1 l2 : List UInt8) (hl1 : l1.length ≤ 9223372036854775807) (hl2 : l2.length ≤ 9223372036854775807) :
    Calls Tryz.prog 13 #[.string ⟨l1.toArray⟩, .string ⟨l2.toArray⟩] w (Keeps (.bool true) w) := by
  have CB := Lib.hid (law_begun w ht)
  have CN1 := Lib.hid (fun wr => law_N wr l1 hl1)
  have CN2 := Lib.hid (fun wr => law_N wr l2 hl2)
  have HT := Lib.hid ht
  clear ht hl1 hl2
  go_enter Tryz.func13, Tryz.ntmps13
  go_wp2_with fail
  refine CB.out.mono ?_
  rintro e w1 ⟨rfl, hb1⟩
  go_wp2_with fail
  refine (CN1.out _).mono ?_
  rintro e w2 ⟨a, ra, n, rfl, ha, _, hn, hb2⟩
  go_wp2_with fail
  refine (CN2.out _).mono ?_
  rintro e w3 ⟨b, rb, m, rfl, hb, _, hm, hb3⟩
  have B3 := below_seq hb1 (below_seq hb2 hb3)
  have SN : Hid ((dgs n).length ≤ 13) := Lib.hid (sz_120 hn)
  have SM : Hid ((dgs m).length ≤ 13) := Lib.hid (sz_120 hm)
  obtain ⟨b1, A1, c1, rfl, _, _⟩ := id ha.open_
  obtain ⟨b2, A2, c2, rfl, _, _⟩ := id hb.open_
  have HA : Hid (∀ W, Below w3.heap.size w3 W → NatAt W (.pointer (some ⟨b1, 0, none⟩)) n) := Lib.hid fun W h => ((ha.keep hb3).keep h).at_
  have HM : Hid (∀ W, Below w3.heap.size w3 W → NatAt W (.pointer (some ⟨b2, 0, none⟩)) m) := Lib.hid fun W h => (hb.keep h).at_
  have TA : Hid (∀ W, Below w3.heap.size w3 W → Calls Tryz.prog 19 #[.pointer (some ⟨b1, 0, none⟩)] W (Keeps (.string ⟨(Lib.decDigits n).toArray⟩) W)) := Lib.hid fun W h => nat_Text W _ n (HA.out W h) (by have := SN.out; omega) (HT.out.keep (below_seq B3 h))
  have TB : Hid (∀ W, Below w3.heap.size w3 W → Calls Tryz.prog 19 #[.pointer (some ⟨b2, 0, none⟩)] W (Keeps (.string ⟨(Lib.decDigits m).toArray⟩) W)) := Lib.hid fun W h => nat_Text W _ m (HM.out W h) (by have := SM.out; omega) (HT.out.keep (below_seq B3 h))
  have C1 : Hid (∀ W, Below w3.heap.size w3 W → Calls Tryz.prog 23 #[.pointer (some ⟨b1, 0, none⟩), .pointer (some ⟨b2, 0, none⟩)] W (Anys W)) := Lib.hid fun W h => (nat_Add W _ _ n m (HA.out W h) (HM.out W h) (by have := SN.out; omega) (by have := SM.out; omega)).mono fun _ _ h => h.any_
  have C2 : Hid (∀ W, Below w3.heap.size w3 W → Calls Tryz.prog 57 #[.pointer (some ⟨b1, 0, none⟩), .pointer (some ⟨b2, 0, none⟩)] W (Anys W)) := Lib.hid fun W h => (nat_Mul W _ _ n m (HA.out W h) (HM.out W h) (by have := SN.out; omega) (by have := SM.out; omega)).mono fun _ _ h => h.any_
  have C3 : Hid (∀ W, Below w3.heap.size w3 W → Calls Tryz.prog 52 #[.pointer (some ⟨b1, 0, none⟩), .pointer (some ⟨b2, 0, none⟩)] W (Anys W)) := Lib.hid fun W h => nat_Less_any W _ _ n m (HA.out W h) (HM.out W h) (by have := SN.out; omega) (by have := SM.out; omega)
  have C4 : Hid (∀ W, Below w3.heap.size w3 W → Calls Tryz.prog 53 #[.pointer (some ⟨b1, 0, none⟩), .pointer (some ⟨b2, 0, none⟩)] W (Anys W)) := Lib.hid fun W h => nat_Div_any W _ _ n m (HA.out W h) (HM.out W h) (by have := SN.out; omega) (by have := SM.out; omega)
  have C5 : Hid (∀ W, Below w3.heap.size w3 W → Calls Tryz.prog 56 #[.pointer (some ⟨b1, 0, none⟩), .pointer (some ⟨b2, 0, none⟩)] W (Anys W)) := Lib.hid fun W h => (nat_Gcd W _ _ n m (HA.out W h) (HM.out W h) (by have := SN.out; omega) (by have := SM.out; omega)).mono fun _ _ h => h.any_
  have C6 : Hid (∀ W, Below w3.heap.size w3 W → Calls Tryz.prog 51 #[.pointer (some ⟨b1, 0, none⟩), .int .i64 70] W (Anys W)) := Lib.hid fun W h => (nat_Shl_pos W _ n 70 (HA.out W h) (by have := SN.out; omega) (by omega)).mono fun _ _ h => h.any_
  have C7 : Hid (∀ W, Below w3.heap.size w3 W → Calls Tryz.prog 59 #[.pointer (some ⟨b1, 0, none⟩), .int .i64 3] W (Anys W)) := Lib.hid fun W h => (nat_Shr_pos W _ n 3 (HA.out W h) (by have := SN.out; omega) (by omega)).mono fun _ _ h => h.any_
  obtain ⟨S1, hS1⟩ : ∃ S1, S1 = Lib.decDigits n := ⟨_, rfl⟩
  obtain ⟨S2, hS2⟩ : ∃ S2, S2 = Lib.decDigits m := ⟨_, rfl⟩
  rw [← hS1] at TA; rw [← hS2] at TB
  clear ha hb hn hm hb1 hb2 hb3 hS1 hS2 HA HM
  have Z := Below.refl w3.heap.size w3
  go_wp2_with fail
  refine (TA.out _ Z).mono ?_
  rintro e w4 ⟨rfl, z4⟩
  go_wp2_with fail
  refine (TB.out _ z4).mono ?_
  rintro e w5 ⟨rfl, hb5⟩
  have z5 := below_seq z4 hb5
  go_wp2_with fail
  refine (C1.out _ z5).mono ?_
  rintro e w6 ⟨v6, rfl, hb6⟩
  have z6 := below_seq z5 hb6
  go_wp2_with fail
  refine (C2.out _ z6).mono ?_
  rintro e w7 ⟨v7, rfl, hb7⟩
  have z7 := below_seq z6 hb7
  go_wp2_with fail
  refine (C3.out _ z7).mono ?_
  rintro e w8 ⟨v8, rfl, hb8⟩
  have z8 := below_seq z7 hb8
  go_wp2_with fail
  refine (C4.out _ z8).mono ?_
  rintro e w9 ⟨v9, rfl, hb9⟩
  have z9 := below_seq z8 hb9
  go_wp2_with fail
  refine (C5.out _ z9).mono ?_
  rintro e w10 ⟨v10, rfl, hb10⟩
  have z10 := below_seq z9 hb10
  go_wp2_with fail
  refine (C6.out _ z10).mono ?_
  rintro e w11 ⟨v11, rfl, hb11⟩
  have z11 := below_seq z10 hb11
  go_wp2_with fail
  refine (C7.out _ z11).mono ?_
  rintro e w12 ⟨v12, rfl, hb12⟩
  have z12 := below_seq z11 hb12
  go_wp2_with fail
  refine (TA.out _ z12).mono ?_
  rintro e w13 ⟨rfl, hb13⟩
  have z13 := below_seq z12 hb13
  go_wp2_with fail
  refine (TB.out _ z13).mono ?_
  rintro e w14 ⟨rfl, hb14⟩
  have z14 := below_seq z13 hb14
  go_wp2_with fail
  go_ret
  exact ⟨rfl, below_seq B3 z14⟩
end Go.Proofs.YtegpelhgkoaaoaaGreatDoor
