/- WordsLimit returns true at every two numbers. -/
import Derived.Test.YtfnhdiibkogekaaGreatDoorAmPf
import Derived.Test.YtfnhdiibkogekaaGreatDoorGwC
import Derived.Test.YtfnhdiibkogekaaGreatDoorGwA
import Derived.Test.YtfnhdiibkogekaaGreatDoorR7a
import Derived.Deep.LoopGhost
import Derived.Deep.OwnRows
set_option linter.unusedVariables false
set_option linter.unusedSimpArgs false
namespace Vic
open Go Go.RowKit
theorem draw10 (n : Int) : ∃ N : Nat, 195 ≤ N ∧ N < 205 ∧ wrap64 (195 + (wrap64 (n.tmod 10 + 10)).tmod 10) = (N : Int) := by
  have h1 := Int.tmod_lt_of_pos n (by decide : (0 : Int) < 10)
  have h2 := Int.lt_tmod_of_pos n (by decide : (0 : Int) < 10)
  generalize n.tmod 10 = a at *
  have e1 : wrap64 (a + 10) = a + 10 := by unfold wrap64; omega
  rw [e1]
  have h3 := Int.tmod_lt_of_pos (a + 10) (by decide : (0 : Int) < 10)
  have h4 := Int.tmod_nonneg (a := a + 10) 10 (by omega)
  generalize (a + 10).tmod 10 = b at *
  obtain ⟨B, rfl⟩ := Int.eq_ofNat_of_zero_le h4
  exact ⟨195 + B, by omega, by omega, by unfold wrap64; omega⟩
theorem draw8 (m : Int) : ∃ M : Nat, 2496 ≤ M ∧ M < 2504 ∧ wrap64 (2496 + (wrap64 (m.tmod 8 + 8)).tmod 8) = (M : Int) := by
  have h1 := Int.tmod_lt_of_pos m (by decide : (0 : Int) < 8)
  have h2 := Int.lt_tmod_of_pos m (by decide : (0 : Int) < 8)
  generalize m.tmod 8 = a at *
  have e1 : wrap64 (a + 8) = a + 8 := by unfold wrap64; omega
  rw [e1]
  have h3 := Int.tmod_lt_of_pos (a + 8) (by decide : (0 : Int) < 8)
  have h4 := Int.tmod_nonneg (a := a + 8) 8 (by omega)
  generalize (a + 8).tmod 8 = b at *
  obtain ⟨B, rfl⟩ := Int.eq_ofNat_of_zero_le h4
  exact ⟨2496 + B, by omega, by omega, by unfold wrap64; omega⟩
theorem set_same {l : List Nat} {k d : Nat} (h : k < l.length) : (l.set k d).getD k 0 = d := by simp [h]
theorem set_away {l : List Nat} {k j d : Nat} (h : j ≠ k) : (l.set k d).getD j 0 = l.getD j 0 := by
  simp [List.getD, List.getElem?_set_ne (Ne.symm h)]
end Vic
namespace Go.Proofs.YtfnhdiibkogekaaGreatDoor
open Go.RowKit Vic
theorem info_by0 : (Tryz.prog.info? 5).map (fun i => (i.zero, i.size, i.bytes)) = some (some (.int .u8 0), 1, 1) := by kernel_rfl
theorem made_by (n : Nat) : madeCells #[.int .u8 0] n = vals .u8 (List.replicate n 0) := by
  apply Array.ext'
  rw [toList_madeCells_one]
  simp [vals]
theorem mk_by (n : Nat) (hn : n ≤ 10000000000) (w : World) :
    (Instr.makeSlice 41 (.int .i64 n) (.int .i64 n)).run Tryz.prog w = .ok (.slice (some ⟨w.heap.size, 0, none⟩) n n) (w.alloc (.cells (vals .u8 (List.replicate n 0)) 5)) := by
  rw [run_make_row' 41 5 _ 1 Tryz.underlying41 info_by0 rfl .i64 .i64 n (by omega) (by omega) w, made_by]
/-- bytes as a text -/
theorem conv_by {w : World} {g k d : Nat} {o : List Nat} {b : UInt8} (hr : Row w g 5 (vals .u8 o)) (hol : o.length = k) (hok : ∀ j, j < k → o.getD j 0 = d) (hb : b.toNat = d) : (convert 41 9 (.slice (some ⟨g, 0, none⟩) k k)).run Tryz.prog w = .ok (.string ⟨(List.replicate k b).toArray⟩) w := by
  have h := run_convert_bytes_back (P := Tryz.prog) w 41 9 5 ⟨g, 0, none⟩ k (List.replicate k b) (by kernel_rfl) (by kernel_rfl) (by kernel_rfl) (fun j hj => by
    rw [show (⟨g, 0, none⟩ : Addr).add j = ⟨g, 0 + j, none⟩ by rcases j with _ | j <;> simp [Addr.add], Nat.zero_add]
    rw [List.length_replicate] at hj
    rw [hr.cell, vals_get .u8 o j (by omega), hok j hj]
    simp [hb])
  rwa [List.length_replicate] at h

set_option maxRecDepth 100000 in
set_option maxHeartbeats 8000000 in
theorem law7_WordsLimit (w : World) (hT : T7 w) (ht : Tab w) (n m : Int) (hn1 : -9223372036854775808 ≤ n) (hn2 : n ≤ 9223372036854775807) (hm1 : -9223372036854775808 ≤ m) (hm2 : m ≤ 9223372036854775807) :
    Calls Tryz.prog 5 #[.int .i64 n, .int .i64 m] w (Keeps (.bool true) w) := by
  have CB := Lib.hid (begun7 hT)
  have HT := Lib.hid ht
  obtain ⟨N, hN1, hN2, hNe⟩ := draw10 n
  obtain ⟨M, hM1, hM2, hMe⟩ := draw8 m
  have hmk := mk_by N (by omega)
  clear hT ht
  go_enter Tryz.func5, Tryz.ntmps5
  go_wp2_with fail
  refine CB.out.mono ?_
  rintro e w1 ⟨rfl, hb1⟩
  go_upto_region 5 with fail
  rw [hNe, hMe]
  clear hNe hMe CB
  go_wp2_with fail
  clear hmk
  have h12 : Below w1.heap.size w1 (w1.alloc (.cells (vals .u8 (List.replicate N 0)) 5)) := (Below.refl _ _).alloc (Nat.le_refl _) _
  go_loopg [33] N (fun g t wr => ∃ (k : Nat) (o : List Nat), t = .int .i64 k ∧ k + g = N ∧ o.length = N ∧ Hid (∀ j, j < k → o.getD j 0 = 97) ∧ Hid (Row wr w1.heap.size 5 (vals .u8 o)) ∧ Below w1.heap.size w1 wr)
  case atStart => exact ⟨0, _, rfl, by omega, by simp, Lib.hid (fun j h => by omega), Lib.hid (Row.new _ _ _), h12⟩
  case round =>
    obtain ⟨k, o, rfl, hk, hol, hok, hrow, hbr⟩ := hrel
    clear h12
    by_cases hlt : k < N
    · have hcell := hrow.out.cell k
      rw [vals_get .u8 o k (by omega)] at hcell
      have hfree := hrow.out.free k
      have hr2 := Lib.hid (Row.set hrow.out k (.int .u8 ((97 : Nat) : Int)))
      rw [vals_set] at hr2
      have hok2 : Hid (∀ j, j < k + 1 → (o.set k 97).getD j 0 = 97) := Lib.hid fun j hj => by
        by_cases e : j = k
        · subst e; exact set_same (by omega)
        · rw [set_away e]; exact hok.out j (by omega)
      have HK := Lib.hid hk
      clear hk hrow hok
      go_wp2_with fail
      go_roundg (gk - 1)
      case measure => have := HK.out; omega
      case rel => exact ⟨k + 1, _, by go_num, by have := HK.out; omega, by simp [hol], hok2, hr2, hbr.setCell (p := ⟨w1.heap.size, k, none⟩) (Nat.le_refl _) _⟩
    · obtain rfl : k = N := by omega
      have hcv0 := conv_by hrow.out hol hok.out (b := 97) rfl
      have hB : Below w.heap.size w wr := below_seq hb1 hbr
      have hcat : ((⟨#[120, 10]⟩ : ByteArray) ++ ⟨(List.replicate k (97 : UInt8)).toArray⟩) ++ ⟨#[10, 121]⟩ = ⟨(limLine k).toArray⟩ := by
        apply ByteArray.ext; simp [limLine]
      have hG := limLine_is hN1 hN2
      have hll : (limLine k).length ≤ 300 := by simp [limLine]; omega
      have cw := words_Get wr (limLine k) (HT.out.keep hB) (by omega)
      unfold WordsGot at cw
      unfold limGood at hG
      rcases hR : wordsGet (limLine k) with ⟨ls, no, er⟩
      rw [hR] at cw hG
      dsimp only at cw hG
      have CW := Lib.hid cw
      have HG := Lib.hid hG
      clear hk hrow hok hol hll hR cw hG hlt
      go_wp2_with fail
      refine CW.out.mono ?_
      rintro e w2 ⟨v, rfl, ⟨A2, c2, rfl, hlc, _⟩, hb2⟩
      have hB2 := below_seq hB hb2
      clear CW hcat hcv0
      by_cases h200 : 200 < k
      · obtain ⟨⟨rfl, rfl⟩, hl0⟩ : (no = 2 ∧ er = 6) ∧ ls.length = 0 := by
          have := HG.out
          rw [if_pos h200] at this
          simpa using this
        clear HG
        go_wp2_with fail
        go_ret
        exact ⟨rfl, hB2⟩
      · obtain ⟨rfl, hl3⟩ : er = 0 ∧ ls.length = 3 := by
          have := HG.out
          rw [if_neg h200] at this
          simpa using this
        have hmk2 := mk_by M (by omega)
        clear HG
        go_wp2_with fail
        clear hmk2 hl3 hlc
        have h23 : Below w2.heap.size w2 (w2.alloc (.cells (vals .u8 (List.replicate M 0)) 5)) := (Below.refl _ _).alloc (Nat.le_refl _) _
        go_loopg [66] M (fun g t wr => ∃ (k : Nat) (o : List Nat), t = .int .i64 k ∧ k + g = M ∧ o.length = M ∧ Hid (∀ j, j < k → o.getD j 0 = 10) ∧ Hid (Row wr w2.heap.size 5 (vals .u8 o)) ∧ Below w2.heap.size w2 wr)
        case atStart => exact ⟨0, _, rfl, by omega, by simp, Lib.hid (fun j h => by omega), Lib.hid (Row.new _ _ _), h23⟩
        case round =>
          obtain ⟨j, o2, rfl, hj, hol, hok, hrow, hbr2⟩ := hrel
          clear h23
          by_cases hlt : j < M
          · have hcell := hrow.out.cell j
            rw [vals_get .u8 o2 j (by omega)] at hcell
            have hfree := hrow.out.free j
            have hr2 := Lib.hid (Row.set hrow.out j (.int .u8 ((10 : Nat) : Int)))
            rw [vals_set] at hr2
            have hok2 : Hid (∀ i, i < j + 1 → (o2.set j 10).getD i 0 = 10) := Lib.hid fun i hi => by
              by_cases e : i = j
              · subst e; exact set_same (by omega)
              · rw [set_away e]; exact hok.out i (by omega)
            have HK := Lib.hid hj
            clear hj hrow hok
            go_wp2_with fail
            go_roundg (gk - 1)
            case measure => have := HK.out; omega
            case rel => exact ⟨j + 1, _, by go_num, by have := HK.out; omega, by simp [hol], hok2, hr2, hbr2.setCell (p := ⟨w2.heap.size, j, none⟩) (Nat.le_refl _) _⟩
          · obtain rfl : j = M := by omega
            have hcv2 := conv_by hrow.out hol hok.out (b := 10) rfl
            have hB3 := below_seq hB2 hbr2
            have hll : (List.replicate j (10 : UInt8)).length ≤ 3000 := by simp; omega
            have cw := words_Get wr (List.replicate j 10) (HT.out.keep hB3) (by omega)
            unfold WordsGot at cw
            rw [limMany j] at cw
            by_cases h25 : 2500 < j
            · rw [if_pos h25] at cw
              dsimp only at cw
              have CW := Lib.hid cw
              clear hj hrow hok hol hll cw hlt
              go_wp2_with fail
              refine CW.out.mono ?_
              rintro e w3 ⟨v, rfl, ⟨A3, c3, rfl, hlc3, _⟩, hb3⟩
              have hB4 := below_seq hB3 hb3
              clear CW hcv2 hlc3
              have hj25 : ¬ ((j : Int) ≤ 2500) := by omega
              go_wp2_with fail
              go_ret
              exact ⟨rfl, hB4⟩
            · rw [if_neg h25] at cw
              dsimp only at cw
              have CW := Lib.hid cw
              clear hj hrow hok hol hll cw hlt
              go_wp2_with fail
              refine CW.out.mono ?_
              rintro e w3 ⟨v, rfl, ⟨A3, c3, rfl, hlc3, _⟩, hb3⟩
              have hB4 := below_seq hB3 hb3
              clear CW hcv2 hlc3
              have hj25 : ((j : Int) ≤ 2500) := by omega
              go_wp2_with fail
              go_ret
              exact ⟨rfl, hB4⟩
end Go.Proofs.YtfnhdiibkogekaaGreatDoor
