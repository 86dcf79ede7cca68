/- The law BitsEdges: the least number of 64 bits, the greatest, words of all ones. -/
import Derived.Test.YtohjljbhfopffaaGreatDoorJWalkH
import Derived.Test.YtohjljbhfopffaaGreatDoorJWalkA
set_option linter.unusedVariables false
set_option linter.unusedSimpArgs false
namespace Go.Proofs.YtohjljbhfopffaaGreatDoor
open Go.RowKit Vic

set_option maxRecDepth 100000 in
set_option maxHeartbeats 8000000 in
theorem law_BitsEdges (w : World) (ht : Tab w) : Calls Tryz.prog 10 #[] w (Keeps (.bool true) w) := by
  have CB : Hid (∀ wr, Below w.heap.size w wr → Calls Tryz.prog 11 #[] wr (Keeps (.bool true) wr)) := Lib.hid fun wr h => law_begun wr (ht.keep h)
  have C1 : Hid (∀ wr, Calls Tryz.prog 22 #[.bool true, .int .u64 9223372036854775808] wr (Rets (.tuple #[.int .i64 (-9223372036854775808), .bool true]) wr)) := Lib.hid fun wr => bits_Signed_n 9223372036854775808 wr (by omega) (by omega)
  have C2 : Hid (∀ wr, Calls Tryz.prog 22 #[.bool false, .int .u64 9223372036854775808] wr (Rets (.tuple #[.int .i64 0, .bool false]) wr)) := Lib.hid fun wr => bits_Signed_x false 9223372036854775808 wr (by omega) (by omega) (fun h => by cases h)
  have C3 : Hid (∀ wr, Calls Tryz.prog 23 #[.int .i64 (-9223372036854775808), .int .i64 64] wr (Rets (.tuple #[.int .i64 (-9223372036854775808), .bool true]) wr)) := Lib.hid fun wr => by
    have h := bits_Narrow (-9223372036854775808) 64 wr (by omega) (by omega) (by omega) (by omega)
    rwa [show narrowI (-9223372036854775808) 64 = -9223372036854775808 by decide +kernel, show ((-9223372036854775808 : Int) == -9223372036854775808) = true by decide] at h
  have C4 : Hid (∀ wr, Calls Tryz.prog 23 #[.int .i64 300, .int .i64 8] wr (Rets (.tuple #[.int .i64 44, .bool false]) wr)) := Lib.hid fun wr => by
    have h := bits_Narrow 300 8 wr (by omega) (by omega) (by omega) (by omega)
    rwa [show narrowI 300 8 = 44 by decide +kernel, show ((44 : Int) == 300) = false by decide] at h
  have C5 : Hid (∀ wr, Calls Tryz.prog 48 #[.int .u64 18446744073709551615, .int .u64 18446744073709551615] wr (Rets (.tuple #[.int .u64 18446744073709551614, .int .u64 1]) wr)) := Lib.hid fun wr => bits_Mul 18446744073709551615 18446744073709551615 wr (by omega) (by omega)
  have C6 : Hid (∀ wr, Calls Tryz.prog 49 #[.int .u64 18446744073709551614, .int .u64 1, .int .u64 18446744073709551615] wr (Keeps (.tuple #[.int .u64 18446744073709551615, .int .u64 0, .bool true]) wr)) := Lib.hid fun wr => bits_Div_yes 18446744073709551614 1 18446744073709551615 wr (by omega) (by omega) (by omega)
  have C7 : Hid (∀ wr, Calls Tryz.prog 50 #[.int .u64 18446744073709551615, .int .u64 18446744073709551615, .bool true] wr (Rets (.tuple #[.int .u64 18446744073709551615, .bool true]) wr)) := Lib.hid fun wr => bits_Add 18446744073709551615 18446744073709551615 true wr (by omega) (by omega)
  have C8 : Hid (∀ wr, Calls Tryz.prog 51 #[.int .u64 0, .int .u64 18446744073709551615, .bool true] wr (Rets (.tuple #[.int .u64 0, .bool true]) wr)) := Lib.hid fun wr => bits_Sub 0 18446744073709551615 true wr (by omega) (by omega)
  have C9 : Hid (∀ wr, Calls Tryz.prog 21 #[.int .i64 (-9223372036854775808)] wr (Rets (.int .u64 9223372036854775808) wr)) := Lib.hid fun wr => bits_Abs (-9223372036854775808) wr (by omega) (by omega)
  have C10 : Hid (∀ wr, Calls Tryz.prog 52 #[.int .i64 (-1), .int .i64 100] wr (Rets (.int .i64 (-1)) wr)) := Lib.hid fun wr => bits_Sar (-1) 100 wr (by omega) (by omega) (by omega) (by omega)
  have C11 : Hid (∀ wr, Calls Tryz.prog 52 #[.int .i64 (-8), .int .i64 1] wr (Rets (.int .i64 (-4)) wr)) := Lib.hid fun wr => bits_Sar (-8) 1 wr (by omega) (by omega) (by omega) (by omega)
  have C12 : Hid (∀ wr, Calls Tryz.prog 52 #[.int .i64 5, .int .i64 (-2)] wr (Rets (.int .i64 20) wr)) := Lib.hid fun wr => by
    have h := bits_Sar 5 (-2) wr (by omega) (by omega) (by omega) (by omega)
    rwa [show sarI 5 (-2) = 20 by decide +kernel] at h
  clear ht
  go_enter Tryz.func10, Tryz.ntmps10
  go_wp2_with fail
  refine (C1.out _).mono ?_
  rintro e w' ⟨rfl, rfl⟩
  go_wp2_with fail
  refine (C2.out _).mono ?_
  rintro e w' ⟨rfl, rfl⟩
  go_wp2_with fail
  refine (C3.out _).mono ?_
  rintro e w' ⟨rfl, rfl⟩
  go_wp2_with fail
  refine (C4.out _).mono ?_
  rintro e w' ⟨rfl, rfl⟩
  go_wp2_with fail
  refine (C5.out _).mono ?_
  rintro e w' ⟨rfl, rfl⟩
  go_wp2_with fail
  refine (C6.out _).mono ?_
  rintro e w6 ⟨rfl, hb6⟩
  go_wp2_with fail
  refine (C7.out _).mono ?_
  rintro e w' ⟨rfl, rfl⟩
  go_wp2_with fail
  refine (C8.out _).mono ?_
  rintro e w' ⟨rfl, rfl⟩
  go_wp2_with fail
  refine (CB.out _ hb6).mono ?_
  rintro e w7 ⟨rfl, hb7⟩
  have B7 := below_seq hb6 hb7
  go_wp2_with fail
  refine (C9.out _).mono ?_
  rintro e w' ⟨rfl, rfl⟩
  go_wp2_with fail
  refine (C10.out _).mono ?_
  rintro e w' ⟨rfl, rfl⟩
  go_wp2_with fail
  refine (C11.out _).mono ?_
  rintro e w' ⟨rfl, rfl⟩
  go_wp2_with fail
  refine (C12.out _).mono ?_
  rintro e w' ⟨rfl, rfl⟩
  go_wp2_with fail
  go_ret
  exact ⟨rfl, B7⟩
end Go.Proofs.YtohjljbhfopffaaGreatDoor
