/- The law NatText: a number of a text, and of a word, and back. -/
import Derived.Test.YtegpelhgkoaaoaaGreatDoorJWalkH
import Derived.Test.YtegpelhgkoaaoaaGreatDoorJWalkD
import Derived.Test.YtegpelhgkoaaoaaGreatDoorJWalkJ
set_option linter.unusedVariables false
set_option linter.unusedSimpArgs false
namespace Vic
open Go Go.RowKit
theorem good_tdg {l : List UInt8} (h : GoodNat l) : (tdg (numOf 0 l)).length ≤ 2000 := by
  have h1 : (10 : Nat) ^ l.length ≤ 10000 ^ l.length := Nat.pow_le_pow_left (by omega) _
  exact Nat.le_trans (tdg_len (Nat.lt_of_lt_of_le (numOf_lt l h.1.2.1) h1)) h.2
theorem wsz {n k : Nat} (h : n < 4294967296 ^ k) : (dgs n).length ≤ k := digs_length_le (by omega) h
theorem over_word (x : Nat) : decide (x + 18446744073709551615 < 18446744073709551616) = decide (x = 0) := by
  by_cases h : x = 0
  · subst h; rfl
  · rw [decide_eq_false h, decide_eq_false (by omega)]
end Vic
namespace Go.Proofs.YtegpelhgkoaaoaaGreatDoor
open Go.RowKit Vic

set_option maxRecDepth 100000 in
set_option maxHeartbeats 8000000 in
theorem law_NatText (w : World) (ht : Tab w) (l : List UInt8) (x : Nat) (hl : l.length ≤ 9223372036854775807) (hx : x < 18446744073709551616) :
    Calls Tryz.prog 3 #[.string ⟨l.toArray⟩, .int .u64 x] w (Keeps (.bool true) w) := by
  have CB := Lib.hid (law_begun w ht)
  have CT : Hid (∀ wr, Calls Tryz.prog 16 #[.string ⟨l.toArray⟩, .int .i64 (100 : Int)] wr (Keeps (.string ⟨(l.take 100).toArray⟩) wr)) := Lib.hid fun wr => law_Text wr l 100 hl (by omega)
  have htl : (l.take 100).length ≤ 100 := by rw [List.length_take]; omega
  generalize l.take 100 = s at *
  have CG : Hid (∀ wr, Calls Tryz.prog 17 #[.string ⟨s.toArray⟩] wr (GotNat s wr)) := Lib.hid fun wr => nat_Get wr s (by omega)
  have CR : Hid (∀ wr, Calls Tryz.prog 18 #[.string ⟨s.toArray⟩] wr (RefGot s wr)) := Lib.hid fun wr => ref_GetN wr s (by omega)
  have CO : Hid (∀ wr, Calls Tryz.prog 21 #[.int .u64 x] wr (Gives (fun v w' => NatPtr w' v x) wr)) := Lib.hid fun wr => nat_Ofp wr x hx
  have CM : Hid (∀ wr, Calls Tryz.prog 21 #[.int .u64 (18446744073709551615 : Int)] wr (Gives (fun v w' => NatPtr w' v 18446744073709551615) wr)) := Lib.hid fun wr => nat_Ofp wr 18446744073709551615 (by omega)
  have CU : Hid (∀ wr, Calls Tryz.prog 24 #[.int .u64 x] wr (Gives (fun v w' => RefN w' v x) wr)) := Lib.hid fun wr => ref_OfU wr x hx
  have SX : Hid ((dgs x).length ≤ 2) := Lib.hid (wsz (Nat.lt_of_lt_of_le hx (by decide)))
  have SS : Hid ((dgs (x + 18446744073709551615)).length ≤ 3) := Lib.hid (wsz (by omega))
  have SM : Hid ((dgs 18446744073709551615).length ≤ 2) := Lib.hid (wsz (by omega))
  have TX : Hid ((tdg x).length ≤ 5) := Lib.hid (tdg_len (Nat.lt_of_lt_of_le hx (by decide)))
  have HX := Lib.hid hx; have HT := Lib.hid ht
  obtain ⟨S, hS⟩ : ∃ S : ByteArray, S = ⟨s.toArray⟩ := ⟨_, rfl⟩
  rw [← hS] at CT CG CR
  have HS := Lib.hid hS
  clear ht hx hl hS htl
  go_enter Tryz.func3, Tryz.ntmps3
  go_wp2_with fail
  refine CB.out.mono ?_
  rintro e w1 ⟨rfl, hb1⟩
  go_wp2_with fail
  refine (CT.out _).mono ?_
  rintro e w2 ⟨rfl, hb2⟩
  go_wp2_with fail
  refine (CG.out _).mono ?_
  rintro e w3 ⟨a, b1, rfl, hb3, hg⟩
  go_wp2_with fail
  refine (CR.out _).mono ?_
  rintro e w4 ⟨n, b2, rfl, hb4, hr⟩
  have B4 := below_seq hb1 (below_seq hb2 (below_seq hb3 hb4))
  clear hb1 hb2
  rcases hg with ⟨rfl, rfl, hbad⟩ | ⟨rfl, hgood, ha⟩
  case' inl =>
    have hr0 : b2 = false := by
      rcases hr with ⟨h, _⟩ | ⟨_, h, _⟩
      · exact h
      · exact absurd h hbad
    subst hr0
    clear hr
    go_wp2_with fail
    obtain ⟨w7, hw7⟩ : ∃ w7, w4 = w7 := ⟨_, rfl⟩
    have B7 := B4
    rw [hw7] at B7 ⊢
    clear hw7 B4 hb3 hb4
  case' inr =>
    obtain ⟨rfl, hn⟩ : b2 = true ∧ RefN w4 n (numOf 0 s) := by
      rcases hr with ⟨_, h⟩ | ⟨h1, _, h⟩
      · exact absurd hgood h
      · exact ⟨h1, h⟩
    clear hr
    have C40 := nat_Text w4 a (numOf 0 s) (ha.keep hb4).at_ (good_sz hgood) (HT.out.keep B4)
    rw [dec_numOf hgood.1, ← HS.out] at C40
    have C4 := Lib.hid C40
    have C5 : Hid (∀ w5, Below w4.heap.size w4 w5 → Calls Tryz.prog 20 #[n] w5 (Keeps (.string S) w5)) := Lib.hid fun w5 h => by
      have := ref_N_Text w5 n (numOf 0 s) (hn.keep h) (Nat.le_trans (good_tdg hgood) (by omega))
      rwa [dec_numOf hgood.1, ← HS.out] at this
    clear C40 hn ha
    go_wp2_with fail
    refine C4.out.mono ?_
    rintro e w6 ⟨rfl, hb6⟩
    go_wp2_with fail
    refine (C5.out _ hb6).mono ?_
    rintro e w7 ⟨rfl, hb7⟩
    have B7 := below_seq B4 (below_seq hb6 hb7)
    go_wp2_with fail
    clear C4 C5 B4 hb3 hb4 hb6 hb7
  all_goals
    refine (CO.out _).mono ?_
    rintro e w8 ⟨v8, rfl, hv8, hb8⟩
    have C80 := nat_Word w8 v8 x hv8.at_ (by have := SX.out; omega)
    rw [if_pos HX.out, decide_eq_true HX.out] at C80
    have C8 := Lib.hid C80
    have HV8 := Lib.hid hv8
    clear C80 hv8
    go_wp2_with fail
    refine C8.out.mono ?_
    rintro e w' ⟨rfl, rfl⟩
    go_wp2_with fail
    refine (CM.out _).mono ?_
    rintro e w9 ⟨v9, rfl, hv9, hb9⟩
    have C9 := Lib.hid (nat_Add w9 v8 v9 x 18446744073709551615 (HV8.out.keep hb9).at_ hv9.at_ (by have := SX.out; omega) (by have := SM.out; omega))
    clear hv9 C8
    go_wp2_with fail
    refine C9.out.mono ?_
    rintro e w10 ⟨v10, rfl, hv10, hb10⟩
    have C100 := nat_Word w10 v10 (x + 18446744073709551615) hv10 (by have := SS.out; omega)
    obtain ⟨rr, hrr⟩ : ∃ rr, rr = ((if x + 18446744073709551615 < 18446744073709551616 then x + 18446744073709551615 else 0 : Nat) : Int) := ⟨_, rfl⟩
    rw [← hrr, over_word] at C100
    have C10 := Lib.hid C100
    have B10 := below_seq B7 (below_seq hb8 (below_seq hb9 hb10))
    have CT8 := Lib.hid (nat_Text w10 v8 x (HV8.out.keep (below_seq hb9 hb10)).at_ (by have := SX.out; omega) (HT.out.keep B10))
    clear C100 hv10 C9 hb8 hb9 hb10 hrr B7 HV8
    go_wp2_with fail
    refine C10.out.mono ?_
    rintro e w' ⟨rfl, rfl⟩
    clear C10
    have hb : Hid (((((x : Nat) : Int)) == 0) = decide (x = 0)) := by
      show _ = _
      by_cases h : x = 0
      · subst h; rfl
      · rw [decide_eq_false h, beq_eq_false_iff_ne]; omega
    by_cases hx0 : x = 0
    all_goals
      have hbo := hb.out
      first | rw [decide_eq_true hx0] at hbo ⊢ | rw [decide_eq_false hx0] at hbo ⊢
      clear hx0
      go_wp2_with fail
      refine CT8.out.mono ?_
      rintro e w11 ⟨rfl, hb11⟩
      go_wp2_with fail
      refine (CU.out _).mono ?_
      rintro e w12 ⟨v12, rfl, hv12, hb12⟩
      have C12 := Lib.hid (ref_N_Text w12 v12 x hv12 (by have := TX.out; omega))
      clear hv12
      go_wp2_with fail
      refine C12.out.mono ?_
      rintro e w13 ⟨rfl, hb13⟩
      go_wp2_with fail
      go_ret
      exact ⟨rfl, below_seq B10 (below_seq hb11 (below_seq hb12 hb13))⟩
end Go.Proofs.YtegpelhgkoaaoaaGreatDoor
