/- The law NatGcd: the greatest measure of products of one number. -/
import Derived.Test.YtohjljbhfopffaaGreatDoorJWalkH
import Derived.Test.YtohjljbhfopffaaGreatDoorJWalkL
set_option linter.unusedVariables false
set_option linter.unusedSimpArgs false
namespace Vic
open Go Go.RowKit
theorem sz_two {k : Nat} (h : k ≤ 127) : sz (2 ^ k) ≤ 4 := digs_length_le (B := 4294967296) (by omega) (Nat.lt_of_le_of_lt (Nat.pow_le_pow_right (by omega) h) (by decide))
end Vic
namespace Go.Proofs.YtohjljbhfopffaaGreatDoor
open Go.RowKit Vic

theorem nat_Cmp_same {w : World} {u v : Value} {n : Nat} (ha : NatAt w u n) (hb : NatAt w v n) (hl : (dgs n).length ≤ 1000000000000) : Calls Tryz.prog 33 #[u, v] w (Rets (.int .i64 0) w) := by
  have := nat_Cmp w u v n n ha hb hl hl
  rwa [cmpI_eq rfl] at this

end Go.Proofs.YtohjljbhfopffaaGreatDoor
