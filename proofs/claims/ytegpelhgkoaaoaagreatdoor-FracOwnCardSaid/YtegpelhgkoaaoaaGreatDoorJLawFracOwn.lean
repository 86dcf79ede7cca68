/- The law FracOwn: what is told of a fraction is no way into it. -/
import Derived.Test.YtegpelhgkoaaoaaGreatDoorJWalkH
import Derived.Test.YtegpelhgkoaaoaaGreatDoorJWalkL
set_option linter.unusedVariables false
set_option linter.unusedSimpArgs false
namespace Go.Proofs.YtegpelhgkoaaoaaGreatDoor
open Go.RowKit Vic

set_option maxRecDepth 100000 in
set_option maxHeartbeats 8000000 in
theorem law_FracOwn (w : World) (ht : Tab w) (l1 l2 : List UInt8) (ng : Bool) (hl1 : l1.length ≤ 9223372036854775807) (hl2 : l2.length ≤ 9223372036854775807) :
    Calls Tryz.prog 14 #[.string ⟨l1.toArray⟩, .string ⟨l2.toArray⟩, .bool ng] w (Keeps (.bool true) w) := by
  have CB := Lib.hid (law_begun w ht)
  have CR := Lib.hid (fun wr => law_R wr l1 l2 ng hl1 hl2)
  have HT := Lib.hid ht
  clear ht hl1 hl2
  go_enter Tryz.func14, Tryz.ntmps14
  go_wp2_with fail
  refine CB.out.mono ?_
  rintro e w1 ⟨rfl, hb1⟩
  go_wp2_with fail
  refine (CR.out _).mono ?_
  rintro e w2 ⟨a, b, n, d, rfl, ha, ⟨x, y, rfl, hx, hy, hs⟩, hn, hd, hd0, hb2⟩
  obtain ⟨A8, c8, rfl, hA8⟩ := hx.open_
  obtain ⟨A9, c9, rfl, hA9⟩ := hy.open_
  obtain ⟨a0, rfl⟩ := ha.some_
  obtain ⟨bs, hbs⟩ : ∃ bs, bs = (ng && decide (n ≠ 0)) := ⟨_, rfl⟩
  rw [← hbs]
  obtain ⟨w3, hw3⟩ : ∃ w3, w3 = w2.alloc (.cells #[.bool bs, .slice A8 (tdg n).length c8, .slice A9 (tdg d).length c9] 43) := ⟨_, rfl⟩
  have hb3 : Below w2.heap.size w2 w3 := by rw [hw3]; exact (Below.refl _ _).alloc (Nat.le_refl _) _
  have B3 := below_seq hb1 (below_seq hb2 hb3)
  obtain ⟨q, hq⟩ : ∃ q, q = quo ng n d := ⟨_, rfl⟩
  have hf : Fits 3 q := by rw [hq]; exact fits_quo hd0 (sz_25 hn) (sz_25 hd)
  rw [← hq] at ha
  have HF := Lib.hid hf
  have HA : Hid (∀ W, Below w3.heap.size w3 W → FracAt W (.pointer (some a0)) q) := Lib.hid fun W h => ((ha.keep hb3).keep h).at_
  have CT : Hid (∀ W, Below w3.heap.size w3 W → Calls Tryz.prog 27 #[.pointer (some a0)] W (Keeps (.string ⟨(fracText q).toArray⟩) W)) := Lib.hid fun W h => frac_Text W _ q (HA.out W h) (HF.out.mono (by omega)) (HT.out.keep (below_seq B3 h))
  have CP : Hid (∀ W, Below w3.heap.size w3 W → Calls Tryz.prog 61 #[.pointer (some a0)] W (PartsOf q W)) := Lib.hid fun W h => frac_Parts W _ q (HA.out W h)
  have CA : Hid (∀ W, Below w3.heap.size w3 W → Calls Tryz.prog 62 #[.pointer (some a0), .pointer (some a0)] W (Anys W)) := Lib.hid fun W h => (frac_Add W _ _ q q (HA.out W h) (HA.out W h) (HF.out.mono (by omega)) (HF.out.mono (by omega))).mono fun _ _ h => h.any_
  have CN : Hid (∀ W, Below w3.heap.size w3 W → Calls Tryz.prog 63 #[.pointer (some a0)] W (Anys W)) := Lib.hid fun W h => (frac_Neg W _ q (HA.out W h) (HF.out.mono (by omega))).mono fun _ _ h => h.any_
  have CF : Hid (∀ W, Below w3.heap.size w3 W → Calls Tryz.prog 64 #[.pointer (some a0)] W (Anys W)) := Lib.hid fun W h => (frac_Floor W _ q (HA.out W h) (HF.out.mono (by omega))).mono fun _ _ h => h.any_
  obtain ⟨S, hS⟩ : ∃ S, S = fracText q := ⟨_, rfl⟩
  rw [← hS] at CT
  have HW3 := Lib.hid hw3
  clear ha hx hy hA8 hA9 hs hn hd hd0 hb1 hb2 hb3 hbs hf hq HA CB CR hS hw3
  have Z := Below.refl w3.heap.size w3
  go_wp2_with fail
  rw [← HW3.out]
  refine (CT.out _ Z).mono ?_
  rintro e w4 ⟨rfl, z4⟩
  go_wp2_with fail
  refine (CP.out _ z4).mono ?_
  rintro e w5 ⟨pn, pd, rfl, hpn, hpd, hb5⟩
  have z5 := below_seq z4 hb5
  have HN := Lib.hid hpn; have HD := Lib.hid hpd
  have C6 := Lib.hid (nat_Add w5 pn pd q.num.natAbs q.den hpn hpd.at_ (Nat.le_trans HF.out.1 (by omega)) (Nat.le_trans HF.out.2 (by omega)))
  clear hpn hpd
  go_wp2_with fail
  refine C6.out.mono ?_
  rintro e w6 ⟨v6, rfl, _, hb6⟩
  have z6 := below_seq z5 hb6
  have C7 := Lib.hid (nat_Shl_pos w6 pn q.num.natAbs 3 (HN.out.keep hb6) (Nat.le_trans HF.out.1 (by omega)) (by omega))
  clear C6
  go_wp2_with fail
  refine C7.out.mono ?_
  rintro e w7 ⟨v7, rfl, _, hb7⟩
  have z7 := below_seq z6 hb7
  clear C7
  go_wp2_with fail
  refine (CA.out _ z7).mono ?_
  rintro e w8 ⟨v8, rfl, hb8⟩
  have z8 := below_seq z7 hb8
  go_wp2_with fail
  refine (CN.out _ z8).mono ?_
  rintro e w9 ⟨v9, rfl, hb9⟩
  have z9 := below_seq z8 hb9
  go_wp2_with fail
  refine (CF.out _ z9).mono ?_
  rintro e w10 ⟨v10, rfl, hb10⟩
  have z10 := below_seq z9 hb10
  go_wp2_with fail
  refine (CT.out _ z10).mono ?_
  rintro e w11 ⟨rfl, hb11⟩
  have z11 := below_seq z10 hb11
  go_wp2_with fail
  go_ret
  exact ⟨rfl, below_seq B3 z11⟩
end Go.Proofs.YtegpelhgkoaaoaaGreatDoor
