/- strings.IndexAny of a text in which a byte above 127 stands by itself. -/
import Derived.Test.YthephiihcgibjaaGreatDoorJStr
import Derived.Test.YthephiihcgibjaaGreatDoorShelf
import Derived.Test.YthephiihcgibjaaGreatDoorJTurnLaw
import Derived.Laws.RangeString
import Derived.Lib.IndexAny
import Derived.Deep.LoopGhost
set_option linter.unusedVariables false
set_option linter.unusedSimpArgs false
namespace Vic
open Go Go.RowKit
/-- a byte above 127 has none such behind it -/
def Lone (l : List UInt8) : Prop := ∀ (i : Nat) b d, l[i]? = some b → 128 ≤ b.toNat → l[i + 1]? = some d → d.toNat < 128
theorem Lone.tail {c : UInt8} {l : List UInt8} (h : Lone (c :: l)) : Lone l := fun i b d h1 h2 h3 => h (i + 1) b d (by simpa using h1) h2 (by simpa using h3)
theorem decode_lone (s : ByteArray) (pos : Nat) (h : pos < s.size) (ha : 128 ≤ (s[pos]'h).toNat) (hn : ∀ h2 : pos + 1 < s.size, (s[pos + 1]'h2).toNat < 128) : Utf8.decode s pos = (65533, 1) := by
  have e : s.get! (pos + 0) = s[pos]'h := by
    show s.get! pos = _
    simp [ByteArray.get!, getElem!_pos, h]
    rfl
  have hc : (decide (pos + 1 < s.size) && (s.get! (pos + 1)).toNat / 64 == 2) = false := by
    by_cases h2 : pos + 1 < s.size
    · have e2 : s.get! (pos + 1) = s[pos + 1]'h2 := by
        simp [ByteArray.get!, getElem!_pos, h2]
        rfl
      have h3 := hn h2
      rw [e2]
      have : ((s[pos + 1]'h2).toNat / 64 == 2) = false := by rw [beq_eq_false_iff_ne]; omega
      rw [this, Bool.and_false]
    · simp [h2]
  have hb : ¬ (s[pos]'h).toNat < 128 := by omega
  simp only [Utf8.decode, e, hc, hb, if_false, Bool.and_false, Bool.false_and, Bool.false_eq_true]
  rfl
section
variable {P : Program}
theorem next_turn (W : World) (a : Nat) (s : ByteArray) (pos r k : Nat) (ty : TypeId) (hW : W.heap[a]? = some (.stringIter s pos)) (h : pos < s.size) (hd : Utf8.decode s pos = (r, k)) :
    (Instr.next (.pointer (some ⟨a, 0, none⟩)) true ty).run P W = .ok (.tuple #[.bool true, .int .i64 pos, .int .i32 r]) { W with heap := W.heap.setIfInBounds a (.stringIter s (pos + k)) } := by
  simp only [Instr.next, getObj, setObj, Sem.run_bind, Sem.run, hW, Result.andThen, h, if_true, hd]
  simp [goInt, Sem.run, hW, hd, h]
theorem next_done (W : World) (a : Nat) (s : ByteArray) (pos : Nat) (ty : TypeId) (hW : W.heap[a]? = some (.stringIter s pos)) (h : ¬ pos < s.size) :
    (Instr.next (.pointer (some ⟨a, 0, none⟩)) true ty).run P W = .ok (.tuple #[.bool false]) W := by
  simp [Instr.next, getObj, Sem.run, hW, h]
end
theorem iter_turn {w W : World} {a : Nat} {o : Obj} (hW : a < W.heap.size) (ha : w.heap.size ≤ a) (hB : Below w.heap.size w W) :
    ({ W with heap := W.heap.setIfInBounds a o } : World).heap[a]? = some o ∧ Below w.heap.size w { W with heap := W.heap.setIfInBounds a o } := by
  constructor
  · show (W.heap.setIfInBounds a o)[a]? = some o
    simp [hW]
  · exact ⟨hB.os, hB.tape, hB.output, by simpa using hB.size, fun k hk => by
      show (W.heap.setIfInBounds a o)[k]? = _
      rw [Array.getElem?_setIfInBounds_ne (by omega)]
      exact hB.block k hk⟩
end Vic
namespace Go.Proofs.YthephiihcgibjaaGreatDoor
open Go.RowKit Vic

set_option maxHeartbeats 4000000 in
set_option maxRecDepth 100000 in
theorem strings_IndexRune_bad (w : World) : Calls Tryz.prog 115 #[.string ⟨#[101, 69]⟩, .int .i32 65533] w (Keeps (.int .i64 (-1)) w) := by
  go_enter Tryz.func115, Tryz.ntmps115
  go_wp2
  go_loopg [5, 6] 2 (fun g _ _ wx => ∃ i : Nat, i + g = 2 ∧ wx = w.iter ⟨#[101, 69]⟩ i)
  case atStart => exact ⟨0, by omega, rfl⟩
  case round =>
    obtain ⟨i, hig, rfl⟩ := hrel
    cases gk with
    | zero =>
      obtain rfl : i = 2 := by omega
      have hnx := run_next_end (P := Tryz.prog) w ⟨#[101, 69]⟩ 2
      go_wp2
      go_ret
      exact ⟨rfl, (Below.refl _ _).alloc (Nat.le_refl _) _⟩
    | succ g =>
      have hi : i < (⟨#[101, 69]⟩ : ByteArray).size := by show i < 2; omega
      obtain ⟨x, hx⟩ : ∃ x : UInt8, (⟨#[101, 69]⟩ : ByteArray)[i]'hi = x := ⟨_, rfl⟩
      have hxx : x.toNat = 101 ∨ x.toNat = 69 := by
        have : i = 0 ∨ i = 1 := by omega
        rcases this with rfl | rfl
        · left; rw [← hx]; rfl
        · right; rw [← hx]; rfl
      have hnx := fun ty => run_next_ascii (P := Tryz.prog) w ⟨#[101, 69]⟩ i ty hi (by rw [hx]; omega)
      rw [hx] at hnx
      have hne : ((x.toNat : Int) == 65533) = false := by rw [beq_eq_false_iff_ne]; omega
      clear hx hxx
      go_wp2
      go_roundg g
      case measure => omega
      case rel => exact ⟨i + 1, by omega, rfl⟩

set_option maxHeartbeats 8000000 in
set_option maxRecDepth 100000 in
theorem strings_IndexAny_lone (w : World) (l : List UInt8) (h8 : l.length ≤ 8) (hlone : Lone l) :
    Calls Tryz.prog 63 #[.string ⟨l.toArray⟩, .string ⟨#[101, 69]⟩] w (Keeps (.int .i64 (Lib.indexAny l [101, 69])) w) := by
  have h8z : decide ((8 : Int) < (l.length : Int)) = false := decide_eq_false (by omega)
  have CU : Hid (∀ wr, Calls Tryz.prog 116 #[.int .i64 (l.length : Nat)] wr (Rets (.bool false) wr)) := Lib.hid fun wr => by
    refine (Go.Proofs.Tryz.strings_shouldUseASCIISet (l.length : Nat) wr).mono ?_
    rintro e w' ⟨rfl, rfl⟩
    exact ⟨by rw [h8z], rfl⟩
  have CR : Hid (∀ (x : UInt8) wr, x.toNat < 128 → Calls Tryz.prog 115 #[.string ⟨#[101, 69]⟩, .int .i32 (x.toNat : Nat)] wr (Keeps (.int .i64 (Lib.indexByte [101, 69] x)) wr)) := Lib.hid fun x wr hx => by
    refine (Go.Proofs.Tryz.strings_IndexRune_ascii ⟨#[101, 69]⟩ (x.toNat : Nat) wr (by omega) (by omega)).mono ?_
    rintro e w' ⟨rfl, rfl⟩
    refine ⟨?_, Below.refl _ _⟩
    have hback : ((x.toNat : Int)).toNat.toUInt8 = x := by simp
    rw [hback]
  have CB : Hid (∀ wr, Calls Tryz.prog 115 #[.string ⟨#[101, 69]⟩, .int .i32 65533] wr (Keeps (.int .i64 (-1)) wr)) := Lib.hid fun wr => strings_IndexRune_bad wr
  have HL := Lib.hid hlone
  clear hlone
  go_enter Tryz.func63, Tryz.ntmps63
  go_wp2_with fail
  refine (CU.out _).mono ?_
  rintro e w' ⟨rfl, rfl⟩
  go_wp2_with fail
  go_loopg [9, 10] l.length (fun g _ _ wx => ∃ i : Nat, i + g = l.length ∧ wx.heap[w.heap.size]? = some (.stringIter ⟨l.toArray⟩ i) ∧ Below w.heap.size w wx ∧ Hid (Lib.NoAny l [101, 69] i))
  case atStart => exact ⟨0, by omega, World.iter_heap _ _ _, (Below.refl _ _).alloc (Nat.le_refl _) _, Lib.hid (Lib.NoAny.zero _ _)⟩
  case round =>
    obtain ⟨i, hig, hit, hB, hno⟩ := hrel
    cases gk with
    | zero =>
      obtain rfl : i = l.length := by omega
      have hnx := fun ty => next_done (P := Tryz.prog) wr w.heap.size ⟨l.toArray⟩ l.length ty hit (by show ¬ l.length < l.toArray.size; simp)
      have HB := Lib.hid hB
      clear hit hB
      go_wp2_with fail
      go_ret
      exact ⟨by rw [Lib.indexAny_none hno.out]; rfl, HB.out⟩
    | succ g =>
      have hi : i < (⟨l.toArray⟩ : ByteArray).size := by show i < l.toArray.size; simp; omega
      obtain ⟨x, hx⟩ : ∃ x : UInt8, (⟨l.toArray⟩ : ByteArray)[i]'hi = x := ⟨_, rfl⟩
      have hxl : l[i]? = some x := by rw [← hx, List.getElem?_eq_getElem (by omega)]; rfl
      have hlt : w.heap.size < wr.heap.size := by
        rcases Nat.lt_or_ge w.heap.size wr.heap.size with h | h
        · exact h
        · rw [Array.getElem?_eq_none h] at hit; cases hit
      have Hx := Lib.hid hxl
      by_cases h128 : x.toNat < 128
      · have hd := decode_ascii ⟨l.toArray⟩ i hi (by rw [hx]; exact h128)
        rw [hx] at hd
        have hnx := fun ty => next_turn (P := Tryz.prog) wr w.heap.size ⟨l.toArray⟩ i _ _ ty hit hi hd
        obtain ⟨hit2, hB2⟩ := iter_turn (o := .stringIter ⟨l.toArray⟩ (i + 1)) hlt (Nat.le_refl _) hB
        obtain ⟨w2, hw2⟩ : ∃ w2, w2 = ({ wr with heap := wr.heap.setIfInBounds w.heap.size (.stringIter ⟨l.toArray⟩ (i + 1)) } : World) := ⟨_, rfl⟩
        rw [← hw2] at hit2 hB2 hnx
        have CR1 := Lib.hid (CR.out x w2 h128)
        have HI2 := Lib.hid hit2; have HB2 := Lib.hid hB2
        have hlt2 : w.heap.size < w2.heap.size := by
          rcases Nat.lt_or_ge w.heap.size w2.heap.size with h | h
          · exact h
          · rw [Array.getElem?_eq_none h] at hit2; cases hit2
        have hcon := Lib.contains_iff_indexByte [101, 69] x
        clear hxl hx hd hit hB hw2 hit2 hB2
        cases hin : ([101, 69] : List UInt8).contains x
        · rw [hin] at hcon
          have hge : ¬ ((0 : Int) ≤ Lib.indexByte [101, 69] x) := of_decide_eq_false hcon.symm
          have HIN := Lib.hid hin
          clear hcon hin
          obtain ⟨v, hv⟩ : ∃ v, v = Lib.indexByte [101, 69] x := ⟨_, rfl⟩
          rw [← hv] at CR1 hge
          clear hv
          go_wp2_with fail
          refine CR1.out.mono ?_
          rintro e w3 ⟨rfl, hb3⟩
          have hit3 := (hb3.block _ hlt2).trans HI2.out
          have B3 := HB2.out.trans (hb3.mono HB2.out.size)
          go_wp2_with fail
          go_roundg g
          case measure => omega
          case rel => exact ⟨i + 1, by omega, hit3, B3, Lib.hid (hno.out.succ Hx.out HIN.out)⟩
        · rw [hin] at hcon
          have hge : (0 : Int) ≤ Lib.indexByte [101, 69] x := of_decide_eq_true hcon.symm
          have HIN := Lib.hid hin
          clear hcon hin
          obtain ⟨v, hv⟩ : ∃ v, v = Lib.indexByte [101, 69] x := ⟨_, rfl⟩
          rw [← hv] at CR1 hge
          clear hv
          go_wp2_with fail
          refine CR1.out.mono ?_
          rintro e w3 ⟨rfl, hb3⟩
          have B3 := HB2.out.trans (hb3.mono HB2.out.size)
          go_wp2_with fail
          go_ret
          exact ⟨by rw [Lib.indexAny_hit hno.out Hx.out HIN.out]; rfl, B3⟩
      · have hd := decode_lone ⟨l.toArray⟩ i hi (by rw [hx]; omega) (fun h2 => by
          have hi2 : i + 1 < l.length := by have : (⟨l.toArray⟩ : ByteArray).size = l.length := by show l.toArray.size = _; simp
                                            omega
          exact HL.out i x _ hxl (by omega) (by rw [List.getElem?_eq_getElem hi2]; rfl))
        have hnx := fun ty => next_turn (P := Tryz.prog) wr w.heap.size ⟨l.toArray⟩ i _ _ ty hit hi hd
        obtain ⟨hit2, hB2⟩ := iter_turn (o := .stringIter ⟨l.toArray⟩ (i + 1)) hlt (Nat.le_refl _) hB
        obtain ⟨w2, hw2⟩ : ∃ w2, w2 = ({ wr with heap := wr.heap.setIfInBounds w.heap.size (.stringIter ⟨l.toArray⟩ (i + 1)) } : World) := ⟨_, rfl⟩
        rw [← hw2] at hit2 hB2 hnx
        have CR1 := Lib.hid (CB.out w2)
        have HI2 := Lib.hid hit2; have HB2 := Lib.hid hB2
        have hlt2 : w.heap.size < w2.heap.size := by
          rcases Nat.lt_or_ge w.heap.size w2.heap.size with h | h
          · exact h
          · rw [Array.getElem?_eq_none h] at hit2; cases hit2
        have hin : ([101, 69] : List UInt8).contains x = false := by
          have e1 : x ≠ 101 := fun h => h128 (by rw [h]; decide)
          have e2 : x ≠ 69 := fun h => h128 (by rw [h]; decide)
          simp [e1, e2]
        have HIN := Lib.hid hin
        clear hxl hx hd hit hB hw2 hit2 hB2 hin
        go_wp2_with fail
        refine CR1.out.mono ?_
        rintro e w3 ⟨rfl, hb3⟩
        have hit3 := (hb3.block _ hlt2).trans HI2.out
        have B3 := HB2.out.trans (hb3.mono HB2.out.size)
        go_wp2_with fail
        go_roundg g
        case measure => omega
        case rel => exact ⟨i + 1, by omega, hit3, B3, Lib.hid (hno.out.succ Hx.out HIN.out)⟩
/-- strings.IndexAny of "eE", whatever the text's length -/
theorem strings_IndexAny_eE (w : World) (l : List UInt8) (hl : l.length ≤ 1000) (hlone : Lone l) :
    Calls Tryz.prog 63 #[.string ⟨l.toArray⟩, .string ⟨#[101, 69]⟩] w (Keeps (.int .i64 (Lib.indexAny l [101, 69])) w) := by
  have hsz : (⟨l.toArray⟩ : ByteArray).size = l.length := by show l.toArray.size = _; simp
  by_cases h8 : l.length ≤ 8
  · exact strings_IndexAny_lone w l h8 hlone
  · have h := Go.Proofs.Tryz.strings_IndexAny_long (zero_of_info (P := Tryz.prog) (t := 159) (n := 256) (by kernel_rfl)).1 ⟨l.toArray⟩ ⟨#[101, 69]⟩ w (by decide) (by rw [hsz]; omega) (by rw [hsz]; omega) (by decide) (ascii_of_all (by decide))
    refine h.mono ?_
    rintro e w' ⟨rfl, rfl⟩
    exact ⟨rfl, ((Below.refl _ _).alloc (Nat.le_refl _) _).alloc (by simp) _⟩
end Go.Proofs.YthephiihcgibjaaGreatDoor
