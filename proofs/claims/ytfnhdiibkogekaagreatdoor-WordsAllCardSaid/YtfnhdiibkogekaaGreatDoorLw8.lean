/- WordsAll returns true at every two texts. -/
import Derived.Test.YtfnhdiibkogekaaGreatDoorAmPf
import Derived.Test.YtfnhdiibkogekaaGreatDoorGwC
import Derived.Test.YtfnhdiibkogekaaGreatDoorR7b
import Derived.Test.YtfnhdiibkogekaaGreatDoorTextCut
import Derived.Deep.LoopGhost
import Derived.Deep.QuietTactic
import Derived.BigQuiet
set_option linter.unusedVariables false
set_option linter.unusedSimpArgs false
namespace Vic
open Go Go.RowKit
/-- the texts that are read -/
def allT (s t : Txt) : List Txt := [s, t, 32 :: (t ++ 13 :: 10 :: s), s ++ 10 :: 42 :: t]
theorem allT_len {s t : Txt} (hs : s.length ≤ 500) (ht : t.length ≤ 230) : ∀ x ∈ allT s t, x.length ≤ 1000 := by
  intro x hx
  simp only [allT, List.mem_cons, List.not_mem_nil, or_false] at hx
  rcases hx with rfl | rfl | rfl | rfl
  · omega
  · omega
  · simp; omega
  · simp; omega
theorem lineOf_len (no : Nat) (s : Txt) : (lineOf no s).length ≤ 1 := by unfold lineOf; split <;> simp
theorem flds_len {p : UInt8 → Bool} : ∀ (s cur : Txt), (fldsP p s cur).length ≤ s.length + 1
  | [], cur => by unfold fldsP; split <;> simp
  | c :: s, cur => by
    rw [fldsP]
    have h1 := flds_len (p := p) s []
    have h2 := flds_len (p := p) s (cur ++ [c])
    split
    · split
      · simp; omega
      · simp; omega
    · simp; omega
theorem getFrom_sizes {B : Nat} : ∀ (ls : List Txt) (no : Nat) (acc : List LineM), (∀ l ∈ ls, l.length ≤ B) → (∀ x ∈ acc, x.words.length ≤ B + 1) → (getFrom no ls acc).1.length ≤ acc.length + ls.length ∧ ∀ x ∈ (getFrom no ls acc).1, x.words.length ≤ B + 1
  | [], no, acc, _, h2 => ⟨by simp [getFrom], by simpa [getFrom] using h2⟩
  | s :: ls, no, acc, h1, h2 => by
    rw [getFrom]
    split
    · exact ⟨by simp, fun x hx => by simp at hx⟩
    · split
      · exact ⟨by simp, fun x hx => by simp at hx⟩
      · obtain ⟨k1, k2⟩ := getFrom_sizes ls (no + 1) (acc ++ lineOf no s) (fun l hl => h1 l (by simp [hl])) (fun x hx => by
          rcases List.mem_append.1 hx with hx | hx
          · exact h2 x hx
          · unfold lineOf at hx
            split at hx
            · simp at hx
            · simp at hx
              subst hx
              have := flds_len (p := blankC) s []
              have := h1 s (by simp)
              show (fldsP blankC s []).length ≤ _
              omega)
        have := lineOf_len no s
        refine ⟨?_, k2⟩
        simp at k1 ⊢; omega
theorem wordsGet_sizes (x : Txt) : (wordsGet x).1.length ≤ x.length ∧ ∀ l ∈ (wordsGet x).1, l.words.length ≤ x.length + 1 := by
  obtain ⟨h1, h2⟩ := spl_sizes x
  obtain ⟨h3, h4⟩ := getFrom_sizes (spl x) 1 [] h2 (fun y hy => by simp at hy)
  exact ⟨by simp at h3; unfold wordsGet; omega, h4⟩
end Vic
namespace Go.Proofs.YtfnhdiibkogekaaGreatDoor
open Go.RowKit Vic

set_option maxRecDepth 100000 in
set_option maxHeartbeats 8000000 in
theorem law7_WordsAll (w : World) (hT : T7 w) (ht : Tab w) (s0 t0 : Txt) (hs0 : s0.length ≤ 9223372036854775807) (ht0 : t0.length ≤ 9223372036854775807) :
    Calls Tryz.prog 3 #[.string ⟨s0.toArray⟩, .string ⟨t0.toArray⟩] w (Keeps (.bool true) w) := by
  have CB := Lib.hid (begun7 hT)
  have HT := Lib.hid ht
  have C1 : Hid (∀ W, Calls Tryz.prog 8 #[.string ⟨s0.toArray⟩, .int .i64 (500 : Int)] W (Keeps (.string ⟨(s0.take 500).toArray⟩) W)) := Lib.hid fun W => law_Text W s0 500 hs0 (by omega)
  have C2 : Hid (∀ W, Calls Tryz.prog 8 #[.string ⟨t0.toArray⟩, .int .i64 (230 : Int)] W (Keeps (.string ⟨(t0.take 230).toArray⟩) W)) := Lib.hid fun W => law_Text W t0 230 ht0 (by omega)
  have hsl : (s0.take 500).length ≤ 500 := by simp; omega
  have htl : (t0.take 230).length ≤ 230 := by simp; omega
  generalize s0.take 500 = s at *
  generalize t0.take 230 = t at *
  have HAL := Lib.hid (allT_len hsl htl)
  have hc3 : ((((⟨#[32]⟩ : ByteArray) ++ ⟨t.toArray⟩) ++ ⟨#[13, 10]⟩) ++ ⟨s.toArray⟩) = ⟨([32] ++ t ++ [13, 10] ++ s).toArray⟩ := by apply ByteArray.ext; simp
  have hc4 : (((⟨s.toArray⟩ : ByteArray) ++ ⟨#[10, 42]⟩) ++ ⟨t.toArray⟩) = ⟨(s ++ [10, 42] ++ t).toArray⟩ := by apply ByteArray.ext; simp
  clear hT ht hs0 ht0
  go_enter Tryz.func3, Tryz.ntmps3
  go_wp2_with fail
  refine CB.out.mono ?_
  rintro e w1 ⟨rfl, hb1⟩
  go_wp2_with fail
  refine (C1.out _).mono ?_
  rintro e w2 ⟨rfl, hb2⟩
  go_wp2_with fail
  refine (C2.out _).mono ?_
  rintro e w3 ⟨rfl, hb3⟩
  have hB3 : Below w.heap.size w w3 := below_seq (below_seq hb1 hb2) hb3
  clear CB C1 C2 hb1 hb2 hb3
  go_wp2_with fail
  have hrow := Row.new w3 9 #[Value.string ⟨s.toArray⟩, Value.string ⟨t.toArray⟩, Value.string ⟨(32 :: (t ++ 13 :: 10 :: s)).toArray⟩, Value.string ⟨(s ++ 10 :: 42 :: t).toArray⟩]
  have h34 : Below w3.heap.size w3 (w3.alloc (.cells #[Value.string ⟨s.toArray⟩, Value.string ⟨t.toArray⟩, Value.string ⟨(32 :: (t ++ 13 :: 10 :: s)).toArray⟩, Value.string ⟨(s ++ 10 :: 42 :: t).toArray⟩] 9)) := (Below.refl _ _).alloc (Nat.le_refl _) _
  have hB4 := below_seq hB3 h34
  generalize w3.alloc (.cells #[Value.string ⟨s.toArray⟩, Value.string ⟨t.toArray⟩, Value.string ⟨(32 :: (t ++ 13 :: 10 :: s)).toArray⟩, Value.string ⟨(s ++ 10 :: 42 :: t).toArray⟩] 9) = w4 at *
  have HC4 : Hid (∀ (k : Nat) (x : Txt), (allT s t)[k]? = some x → w4.cell? ⟨w3.heap.size, k, none⟩ = some (.string ⟨x.toArray⟩)) := Lib.hid fun k x hx => by
    rw [hrow.cell]
    rcases k with _ | _ | _ | _ | k <;> simp [allT] at hx <;> subst hx <;> rfl
  clear hrow h34 hc3 hc4 hB3
  go_loopg [36] 4 (fun g kv wr => ∃ k : Nat, kv = .int .i64 k ∧ k + g = 4 ∧ Below w4.heap.size w4 wr)
  case atStart => exact ⟨0, rfl, by omega, Below.refl _ _⟩
  case round =>
    obtain ⟨k, rfl, hkg, hbr⟩ := hrel
    have hbw := below_seq hB4 hbr
    by_cases hk4 : k < 4
    · obtain ⟨x, hx⟩ : ∃ x, (allT s t)[k]? = some x := ⟨(allT s t)[k]'(by simp [allT]; omega), by simp⟩
      have hcell := cell_keep (HC4.out k x hx) hbr
      have hxl := HAL.out x (List.mem_of_getElem? hx)
      have cw := words_Get wr x (HT.out.keep hbw) (by omega)
      have cr : ∀ W, Calls Tryz.prog 10 #[.string ⟨x.toArray⟩] W (WordsGot x W) := fun W => ref7_Get W x (by omega)
      unfold WordsGot at cw cr
      have hsz := wordsGet_sizes x
      rcases hR : wordsGet x with ⟨L, no, er⟩
      rw [hR] at cw cr hsz
      dsimp only at cw cr hsz
      obtain ⟨hLb, hwb⟩ := hsz
      have HWB := Lib.hid hwb
      have CW := Lib.hid cw
      have CR := Lib.hid cr
      have HKG := Lib.hid hkg
      clear cw cr hR hx hkg hwb
      go_wp2_with fail
      refine CW.out.mono ?_
      rintro e w5 ⟨v1, rfl, ⟨A1, c1, rfl, hc1, hl1⟩, hb5⟩
      have HL1 := Lib.hid hl1
      clear hl1 CW hcell
      go_wp2_with fail
      refine (CR.out w5).mono ?_
      rintro e w6 ⟨v2, rfl, ⟨A2, c2, rfl, hc2, hl2⟩, hb6⟩
      have HL2 := Lib.hid hl2
      have hb46 : Below w4.heap.size w4 w6 := (hbr.trans (hb5.mono hbr.size)).trans (hb6.mono (Nat.le_trans hbr.size hb5.size))
      have HB46 := Lib.hid hb46
      have HB56 := Lib.hid hb6
      clear hl2 CR hb46 hb5 hb6 hbr hbw
      go_wp2_with fail
      go_loopg [69] L.length (fun g iv wx => ∃ i : Nat, iv = .int .i64 i ∧ i + g = L.length ∧ Below w6.heap.size w6 wx)
      case atStart => exact ⟨0, rfl, by omega, Below.refl _ _⟩
      case round =>
        obtain ⟨i, rfl, hig, hbx⟩ := hrel
        have HIG := Lib.hid hig
        by_cases hil : i < L.length
        · obtain ⟨ln, hln⟩ : ∃ ln, L[i]? = some ln := ⟨L[i], by simp [hil]⟩
          have hwl := HWB.out ln (List.mem_of_getElem? hln)
          obtain ⟨g1, o1, rfl, z1, hn1, hh1, hz1, hw1⟩ := HL1.out i ln hln
          obtain ⟨g2, o2, rfl, z2, hn2, hh2, hz2, hw2⟩ := HL2.out i ln hln
          obtain ⟨D1, d1, rfl, hd1, hs1⟩ := hw1
          obtain ⟨D2, d2, rfl, hd2, hs2⟩ := hw2
          have hb5x := below_seq HB56.out hbx
          have c1n := cell_keep hn1 hb5x
          have c1h := cell_keep hh1 hb5x
          have c1z := cell_keep hz1 hb5x
          have c2n := cell_keep hn2 hbx
          have c2h := cell_keep hh2 hbx
          have c2z := cell_keep hz2 hbx
          have HS1 := Lib.hid hs1
          have HS2 := Lib.hid hs2
          have HB5X := Lib.hid hb5x
          have HBX := Lib.hid hbx
          clear hn1 hh1 hz1 hn2 hh2 hz2 hs1 hs2 hb5x hbx hln hig
          go_wp2_with fail
          go_quiet (fail)
          have hbq : Below w6.heap.size w6 (wr.drewN nq) := Below.drewN_ HBX.out nq
          have hbq5 : Below w5.heap.size w5 (wr.drewN nq) := Below.drewN_ HB5X.out nq
          have e1z := cell_keep c1z (Below.drewN_ (Below.refl _ _) nq)
          have e2z := cell_keep c2z (Below.drewN_ (Below.refl _ _) nq)
          generalize wr.drewN nq = wq at *
          have HBQ := Lib.hid hbq
          clear c1n c1h c1z c2n c2h c2z HB5X HBX hbq5
          go_wp2_with fail
          have HD : Hid (∀ W, Below wq.heap.size wq W → W.cell? ⟨g1, o1 + i * 3 + 2, none⟩ = some (.slice D1 ln.words.length d1) ∧ W.cell? ⟨g2, o2 + i * 3 + 2, none⟩ = some (.slice D2 ln.words.length d2)) := Lib.hid fun W hW => ⟨cell_keep e1z hW, cell_keep e2z hW⟩
          clear e1z e2z hbq
          go_loopg [117] ln.words.length (fun g jv wx => ∃ j : Nat, jv = .int .i64 j ∧ j + g = ln.words.length ∧ Below wq.heap.size wq wx)
          case atStart => exact ⟨0, rfl, by omega, Below.refl _ _⟩
          case round =>
            obtain ⟨j, rfl, hjg, hbj⟩ := hrel
            have HJG := Lib.hid hjg
            by_cases hjl : j < ln.words.length
            · obtain ⟨y, hy⟩ : ∃ y, ln.words[j]? = some y := ⟨ln.words[j], by simp [hjl]⟩
              obtain ⟨p1, q1, rfl, k1⟩ := HS1.out j y hy
              obtain ⟨p2, q2, rfl, k2⟩ := HS2.out j y hy
              unfold StrR at k1 k2
              have hq6 := below_seq HBQ.out hbj
              have hq5 := below_seq HB56.out hq6
              have k1' := cell_keep k1 hq5
              have k2' := cell_keep k2 hq6
              obtain ⟨f1, f2⟩ := HD.out wr hbj
              rw [Nat.mul_one] at k1' k2'
              have HBJ := Lib.hid hbj
              clear k1 k2 hy hjg hbj hq6 hq5
              go_wp2_with fail
              go_quiet (fail)
              have hbz : Below wq.heap.size wq (wr.drewN nq) := Below.drewN_ HBJ.out nq
              clear f1 f2 k1' k2'
              go_wp2_with fail
              go_roundg (gk - 1)
              case measure => have := HJG.out; omega
              case rel => exact ⟨j + 1, by go_num, by have := HJG.out; omega, hbz⟩
            · have hb6j := below_seq HBQ.out hbj
              obtain rfl : j = ln.words.length := by omega
              clear hjg
              have hig := HIG.out
              go_wp2_with fail
              go_roundg (L.length - (i + 1))
              case measure => omega
              case rel => exact ⟨i + 1, by go_num, by omega, hb6j⟩
        · have hb4x := below_seq HB46.out hbx
          obtain rfl : i = L.length := by omega
          have hkg := HKG.out
          clear hig
          go_wp2_with fail
          go_roundg (4 - (k + 1))
          case measure => omega
          case rel => exact ⟨k + 1, by go_num, by omega, hb4x⟩
    · obtain rfl : k = 4 := by omega
      have CN := Lib.hid (words_Name wr t (by omega))
      have CM : Hid (∀ W, Calls Tryz.prog 12 #[.string ⟨t.toArray⟩] W (Rets (.bool (nameB t)) W)) := Lib.hid fun W => ref7_Name W t (by omega)
      generalize nameB t = b at *
      clear hkg
      go_wp2_with fail
      refine CN.out.mono ?_
      rintro e w5 ⟨rfl, hb5⟩
      have hb5w := below_seq hbw hb5
      go_wp2_with fail
      refine (CM.out w5).mono ?_
      rintro e w6 ⟨rfl, rfl⟩
      go_wp2_with fail
      go_ret
      exact ⟨by cases b <;> rfl, hb5w⟩
end Go.Proofs.YtfnhdiibkogekaaGreatDoor
