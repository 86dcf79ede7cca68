/- The law BitsSigned: numbers with a sign, as words, and back; the lowest bits of one as a number. -/
import Derived.Test.YtohjljbhfopffaaGreatDoorJWalkH
import Derived.Test.YtohjljbhfopffaaGreatDoorJWalkK
import Derived.Test.YtohjljbhfopffaaGreatDoorJWalkA
import Derived.Deep.QuietTactic
import Derived.BigQuiet
set_option linter.unusedVariables false
set_option linter.unusedSimpArgs false
namespace Vic
open Go Go.RowKit
/-- the highest of the k lowest bits laid into all places above, one by one -/
theorem fill_done {L : List Bool} {X k : Nat} (hk : 1 ≤ k) (hk2 : k ≤ 64) (hl : L.length = 64) (h1 : ∀ j, j < k → L.getD j false = (bitsOf X).getD j false) (h2 : ∀ j, k ≤ j → j < 64 → L.getD j false = (bitsOf X).getD (k - 1) false) :
    L = (bitsOf X).take k ++ List.replicate (64 - k) ((bitsOf X).getD (k - 1) false) := by
  have hb : (bitsOf X).length = 64 := by simp [bitsOf]
  apply List.ext_getElem
  · simp [hl, hb]; omega
  · intro i h3 h4
    have hi : i < 64 := by omega
    have e : L[i] = L.getD i false := by rw [List.getD_eq_getElem?_getD, List.getElem?_eq_getElem h3]; rfl
    rw [e]
    by_cases hik : i < k
    · rw [List.getElem_append_left (by simp [hb]; omega), h1 i hik]
      simp [List.getD_eq_getElem?_getD, hb, hi]
    · rw [List.getElem_append_right (by simp [hb]; omega), h2 i (by omega) hi]
      simp
end Vic
namespace Go.Proofs.YtohjljbhfopffaaGreatDoor
open Go.RowKit Vic

set_option maxRecDepth 100000 in
set_option maxHeartbeats 8000000 in
theorem signed_n0 (w : World) (ht : Tab w) (x v : Int) (u : Nat) (h1 : -9223372036854775808 ≤ x) (h2 : x ≤ 9223372036854775807) (hu : u < 18446744073709551616) (h3 : -9223372036854775808 ≤ v) (h4 : v ≤ 9223372036854775807) (hc : u = 0) :
    Calls Tryz.prog 5 #[.int .i64 x, .int .u64 u, .bool true, .int .i64 v] w (Keeps (.bool true) w) := by
  have CBG := Lib.hid (law_begun w ht)
  obtain ⟨a, ha⟩ : ∃ a, a = x.natAbs := ⟨_, rfl⟩
  have CA0 := fun wr => bits_Abs x wr h1 h2
  rw [← ha] at CA0
  have CS1 : Hid (∀ wr, Calls Tryz.prog 22 #[.bool (decide (x < 0)), .int .u64 a] wr (Rets (.tuple #[.int .i64 x, .bool true]) wr)) := Lib.hid fun wr => by
    by_cases hx : x < 0
    · rw [decide_eq_true hx]
      have := bits_Signed_n a wr (by omega) (by omega)
      rwa [show -((a : Nat) : Int) = x by omega] at this
    · rw [decide_eq_false hx]
      have e : x = ((a : Nat) : Int) := by omega
      subst e
      exact bits_Signed_p a wr (by omega) (by omega)
  have CA := Lib.hid CA0
  obtain ⟨c, hcc⟩ : ∃ c, c = -((u : Nat) : Int) := ⟨_, rfl⟩
  have CS2 : Hid (∀ wr, Calls Tryz.prog 22 #[.bool true, .int .u64 u] wr (Rets (.tuple #[.int .i64 c, .bool true]) wr)) := Lib.hid fun wr => by
    rw [hcc]; exact bits_Signed_n u wr hu (by omega)
  have CA2 : Hid (∀ wr, Calls Tryz.prog 21 #[.int .i64 c] wr (Rets (.int .u64 (u : Nat)) wr)) := Lib.hid fun wr => by
    have := bits_Abs c wr (by omega) (by omega)
    rwa [show c.natAbs = u by omega] at this
  have t1 : decide ((u : Int) ≤ 9223372036854775807) = true := by first | exact decide_eq_true (by omega) | exact decide_eq_false (by omega)
  have t3 : ¬ (0 : Int) < (u : Int) := by omega
  clear hcc
  clear CA0 ha hu hc ht
  go_enter Tryz.func5, Tryz.ntmps5
  go_wp2_with fail
  refine CBG.out.mono ?_
  rintro e w1 ⟨rfl, hb1⟩
  go_wp2_with fail
  refine (CA.out _).mono ?_
  rintro e w' ⟨rfl, rfl⟩
  go_wp2_with fail
  refine (CS1.out _).mono ?_
  rintro e w' ⟨rfl, rfl⟩
  go_wp2_with fail
  refine (CS2.out _).mono ?_
  rintro e w' ⟨rfl, rfl⟩
  go_wp2_with fail
  refine (CA2.out _).mono ?_
  rintro e w' ⟨rfl, rfl⟩
  clear CA2
  clear CBG CA CS1 CS2
  by_cases hw : 1 ≤ v ∧ v ≤ 64
  · obtain ⟨hw1, hw2⟩ := hw
    obtain ⟨k, rfl⟩ : ∃ k : Nat, v = (k : Int) := ⟨v.toNat, by omega⟩
    have hk1 : 1 ≤ k := by omega
    have hk2 : k ≤ 64 := by omega
    have CN0 := fun wr => bits_Narrow x k wr h1 h2 hk1 hk2
    unfold narrowI at CN0
    rw [narrow_bmod x k hk1 hk2] at CN0
    obtain ⟨n, hn⟩ : ∃ n, n = x.bmod (2 ^ k) := ⟨_, rfl⟩
    rw [← hn] at CN0
    have CN := Lib.hid CN0
    obtain ⟨X, hX⟩ : ∃ X, X = (x % 18446744073709551616).toNat := ⟨_, rfl⟩
    have hXb : X < 18446744073709551616 := by omega
    have eX : IntKind.u64.wrap x = (X : Int) := by rw [IntKind.wrap_u64, hX]; omega
    have hnw := narrow_word (x := x) (k := k) (X := X) hk1 hk2 hX
    rw [← hn] at hnw
    have HNW := Lib.hid hnw
    have CB := Lib.hid (fun wr => ref_Bits wr X hXb)
    have hl64 : (bitsOf X).length = 64 := by simp [bitsOf]
    obtain ⟨Bx, hBx⟩ : ∃ Bx, Bx = bitsOf X := ⟨_, rfl⟩
    rw [← hBx] at hl64 CB
    have HBx := Lib.hid hBx
    have hsz : (Tryz.prog.info? 47).map (·.size) = some (bools Bx).size := by rw [bools_size, hl64]; kernel_rfl
    have hbe : (n == x) = (n == x) := rfl
    obtain ⟨bb, hbb⟩ : ∃ bb, bb = (n == x) := ⟨_, rfl⟩
    rw [← hbb] at CN
    have hbb2 := hbb.symm
    clear CN0 hn hX hXb hnw hBx hbe hbb
    go_wp2_with fail
    refine (CN.out _).mono ?_
    rintro e w' ⟨rfl, rfl⟩
    go_wp2_with fail
    refine (CB.out _).mono ?_
    rintro e w2 ⟨rfl, hb2⟩
    go_wp2_with (refine wpList_store_row rfl 47 _ _ rfl w2.heap.size (bools Bx) rfl rfl 47 _ (heap_alloc_new _ _) hsz (by rw [bools_size, hl64]; rfl) (bools_one Bx) ?_)
    obtain ⟨w3, hw3⟩ : ∃ w3, w3 = (w2.alloc (.cells (bools (List.replicate 64 false)) 47)).setRow w2.heap.size (bools Bx) := ⟨_, rfl⟩
    have hr3 : Row w3 w2.heap.size 47 (bools Bx) := by
      rw [hw3]; exact setRow_heap _ _ _ _ _ _ (heap_alloc_new _ _)
    have hb3 : Below w2.heap.size w2 w3 := by
      rw [hw3]; exact ((Below.refl _ _).alloc (Nat.le_refl _) _).trans ((setRow_only _ _ _).below (Nat.le_refl _))
    have B3 : Below w.heap.size w w3 := below_seq hb1 (below_seq hb2 hb3)
    have hw1' : w.heap.size ≤ w2.heap.size := Nat.le_trans hb1.size hb2.size
    rw [bools_64] at hw3
    rw [← hw3]
    have HR3 := Lib.hid hr3
    clear hw3 hr3 hb3 hb2 hb1 hsz CB CN
    obtain ⟨G, hG⟩ : ∃ G, G = w2.heap.size := ⟨_, rfl⟩
    rw [← hG] at HR3 hw1' ⊢
    clear hG
    go_loopw [19] (fun t wr => ∃ (i : Nat) (L : List Bool), t = .int .i64 i ∧ k ≤ i ∧ i ≤ 64 ∧ L.length = 64 ∧ Hid (∀ j, j < k → L.getD j false = Bx.getD j false) ∧ Hid (∀ j, k ≤ j → j < i → L.getD j false = Bx.getD (k - 1) false) ∧ Hid (Row wr G 47 (bools L)) ∧ Below w.heap.size w wr) (fun t _ => 64 - (intOf t).toNat)
    case atStart => exact ⟨k, Bx, rfl, Nat.le_refl _, hk2, hl64, fun j h => rfl, fun j h h' => by omega, HR3, B3⟩
    case round =>
      clear HR3 B3 h1 h2 h3 h4
      try clear t1
      try clear t2
      try clear t3
      try clear t4
      obtain ⟨i, L, rfl, hki, hi, hL, hlow, hup, hrow, hbr⟩ := hrel
      by_cases hlt : i < 64
      · obtain ⟨k', rfl⟩ : ∃ k', k = k' + 1 := ⟨k - 1, by omega⟩
        have hci := hrow.out.cell i
        rw [bools_get L i (by omega)] at hci
        have hck := hrow.out.cell k'
        rw [bools_get L k' (by omega), hlow.out k' (by omega)] at hck
        have hfree := hrow.out.free i
        obtain ⟨b, hb⟩ : ∃ b, b = Bx.getD k' false := ⟨_, rfl⟩
        rw [← hb] at hck
        have hr2 := Lib.hid (Row.set hrow.out i (.bool b))
        rw [bools_set] at hr2
        have s1 : Hid (∀ j, j < k' + 1 → (L.set i b).getD j false = Bx.getD j false) := Lib.hid fun j hj => by
          rw [show (L.set i b).getD j false = L.getD j false by simp [List.getD_eq_getElem?_getD, List.getElem?_set_ne (show i ≠ j by omega)]]
          exact hlow.out j hj
        have s2 : Hid (∀ j, k' + 1 ≤ j → j < i + 1 → (L.set i b).getD j false = Bx.getD (k' + 1 - 1) false) := Lib.hid fun j hj hj2 => by
          by_cases e : j = i
          · subst e; rw [Nat.add_sub_cancel, ← hb]; simp [List.getD_eq_getElem?_getD, hL, hlt]
          · rw [show (L.set i b).getD j false = L.getD j false by simp [List.getD_eq_getElem?_getD, List.getElem?_set_ne (Ne.symm e)]]
            exact hup.out j hj (by omega)
        clear hb hlow hup
        have ek : ((k' + 1 : Nat) : Int) - 1 = (k' : Int) := by omega
        go_wp2_with fail
        go_roundw
        case rel => exact ⟨i + 1, L.set i b, by go_num, by omega, by omega, by simp [hL], s1, s2, hr2, hbr.setCell (p := ⟨G, i, none⟩) (by show w.heap.size ≤ G; omega) _⟩
        case measure => simp [intOf]; omega
      · obtain rfl : i = 64 := by omega
        have hLd := fill_done hk1 hk2 hL (by rw [← HBx.out]; exact hlow.out) (by rw [← HBx.out]; exact fun j h h' => hup.out j h h')
        have hval : Hid (IntKind.u64.wrap n = ((bv L : Nat) : Int)) := Lib.hid (by rw [HNW.out, hLd])
        have hsz2 : (Tryz.prog.info? 47).map (·.size) = some (bools L).size := by rw [bools_size, hL]; kernel_rfl
        obtain ⟨V, hV⟩ : ∃ V, V = bv L := ⟨_, rfl⟩
        have CW0 := fun W => ref_Word W L hL
        rw [← hV] at CW0 hval
        have CW := Lib.hid CW0
        have hval' := hval.out
        clear hLd hlow hup hV CW0
        go_wp2_with (refine wpList_load_row rfl 47 _ rfl G rfl 47 (bools L) (0, 0) _ hrow.out Tryz.underlying47 rfl hsz2 ?_)
        refine (CW.out _).mono ?_
        rintro e w9 ⟨rfl, hb9⟩
        go_wp2_with fail
        go_ret
        exact ⟨rfl, below_seq hbr hb9⟩
  · have CN := Lib.hid (fun wr => bits_Narrow_x x v wr h1 h2 (show v < 1 ∨ 64 < v by omega))
    rcases (show v < 1 ∨ (1 ≤ v ∧ 64 < v) by omega) with hv | ⟨hv, hv2⟩
    all_goals
      clear hw
      go_wp2_with fail
      refine (CN.out _).mono ?_
      rintro e w' ⟨rfl, rfl⟩
      go_wp2_with fail
      go_ret
      exact ⟨rfl, hb1⟩

set_option maxRecDepth 100000 in
set_option maxHeartbeats 8000000 in
theorem signed_n1 (w : World) (ht : Tab w) (x v : Int) (u : Nat) (h1 : -9223372036854775808 ≤ x) (h2 : x ≤ 9223372036854775807) (hu : u < 18446744073709551616) (h3 : -9223372036854775808 ≤ v) (h4 : v ≤ 9223372036854775807) (hc : 0 < u ∧ u ≤ 9223372036854775807) :
    Calls Tryz.prog 5 #[.int .i64 x, .int .u64 u, .bool true, .int .i64 v] w (Keeps (.bool true) w) := by
  have CBG := Lib.hid (law_begun w ht)
  obtain ⟨a, ha⟩ : ∃ a, a = x.natAbs := ⟨_, rfl⟩
  have CA0 := fun wr => bits_Abs x wr h1 h2
  rw [← ha] at CA0
  have CS1 : Hid (∀ wr, Calls Tryz.prog 22 #[.bool (decide (x < 0)), .int .u64 a] wr (Rets (.tuple #[.int .i64 x, .bool true]) wr)) := Lib.hid fun wr => by
    by_cases hx : x < 0
    · rw [decide_eq_true hx]
      have := bits_Signed_n a wr (by omega) (by omega)
      rwa [show -((a : Nat) : Int) = x by omega] at this
    · rw [decide_eq_false hx]
      have e : x = ((a : Nat) : Int) := by omega
      subst e
      exact bits_Signed_p a wr (by omega) (by omega)
  have CA := Lib.hid CA0
  obtain ⟨c, hcc⟩ : ∃ c, c = -((u : Nat) : Int) := ⟨_, rfl⟩
  have CS2 : Hid (∀ wr, Calls Tryz.prog 22 #[.bool true, .int .u64 u] wr (Rets (.tuple #[.int .i64 c, .bool true]) wr)) := Lib.hid fun wr => by
    rw [hcc]; exact bits_Signed_n u wr hu (by omega)
  have CA2 : Hid (∀ wr, Calls Tryz.prog 21 #[.int .i64 c] wr (Rets (.int .u64 (u : Nat)) wr)) := Lib.hid fun wr => by
    have := bits_Abs c wr (by omega) (by omega)
    rwa [show c.natAbs = u by omega] at this
  have t1 : decide ((u : Int) ≤ 9223372036854775807) = true := by first | exact decide_eq_true (by omega) | exact decide_eq_false (by omega)
  have t3 : (0 : Int) < (u : Int) := by omega
  have t4 : (c : Int) < 0 := by omega
  clear hcc
  clear CA0 ha hu hc ht
  go_enter Tryz.func5, Tryz.ntmps5
  go_wp2_with fail
  refine CBG.out.mono ?_
  rintro e w1 ⟨rfl, hb1⟩
  go_wp2_with fail
  refine (CA.out _).mono ?_
  rintro e w' ⟨rfl, rfl⟩
  go_wp2_with fail
  refine (CS1.out _).mono ?_
  rintro e w' ⟨rfl, rfl⟩
  go_wp2_with fail
  refine (CS2.out _).mono ?_
  rintro e w' ⟨rfl, rfl⟩
  go_wp2_with fail
  refine (CA2.out _).mono ?_
  rintro e w' ⟨rfl, rfl⟩
  clear CA2
  clear CBG CA CS1 CS2
  by_cases hw : 1 ≤ v ∧ v ≤ 64
  · obtain ⟨hw1, hw2⟩ := hw
    obtain ⟨k, rfl⟩ : ∃ k : Nat, v = (k : Int) := ⟨v.toNat, by omega⟩
    have hk1 : 1 ≤ k := by omega
    have hk2 : k ≤ 64 := by omega
    have CN0 := fun wr => bits_Narrow x k wr h1 h2 hk1 hk2
    unfold narrowI at CN0
    rw [narrow_bmod x k hk1 hk2] at CN0
    obtain ⟨n, hn⟩ : ∃ n, n = x.bmod (2 ^ k) := ⟨_, rfl⟩
    rw [← hn] at CN0
    have CN := Lib.hid CN0
    obtain ⟨X, hX⟩ : ∃ X, X = (x % 18446744073709551616).toNat := ⟨_, rfl⟩
    have hXb : X < 18446744073709551616 := by omega
    have eX : IntKind.u64.wrap x = (X : Int) := by rw [IntKind.wrap_u64, hX]; omega
    have hnw := narrow_word (x := x) (k := k) (X := X) hk1 hk2 hX
    rw [← hn] at hnw
    have HNW := Lib.hid hnw
    have CB := Lib.hid (fun wr => ref_Bits wr X hXb)
    have hl64 : (bitsOf X).length = 64 := by simp [bitsOf]
    obtain ⟨Bx, hBx⟩ : ∃ Bx, Bx = bitsOf X := ⟨_, rfl⟩
    rw [← hBx] at hl64 CB
    have HBx := Lib.hid hBx
    have hsz : (Tryz.prog.info? 47).map (·.size) = some (bools Bx).size := by rw [bools_size, hl64]; kernel_rfl
    have hbe : (n == x) = (n == x) := rfl
    obtain ⟨bb, hbb⟩ : ∃ bb, bb = (n == x) := ⟨_, rfl⟩
    rw [← hbb] at CN
    have hbb2 := hbb.symm
    clear CN0 hn hX hXb hnw hBx hbe hbb
    go_wp2_with fail
    refine (CN.out _).mono ?_
    rintro e w' ⟨rfl, rfl⟩
    go_wp2_with fail
    refine (CB.out _).mono ?_
    rintro e w2 ⟨rfl, hb2⟩
    go_wp2_with (refine wpList_store_row rfl 47 _ _ rfl w2.heap.size (bools Bx) rfl rfl 47 _ (heap_alloc_new _ _) hsz (by rw [bools_size, hl64]; rfl) (bools_one Bx) ?_)
    obtain ⟨w3, hw3⟩ : ∃ w3, w3 = (w2.alloc (.cells (bools (List.replicate 64 false)) 47)).setRow w2.heap.size (bools Bx) := ⟨_, rfl⟩
    have hr3 : Row w3 w2.heap.size 47 (bools Bx) := by
      rw [hw3]; exact setRow_heap _ _ _ _ _ _ (heap_alloc_new _ _)
    have hb3 : Below w2.heap.size w2 w3 := by
      rw [hw3]; exact ((Below.refl _ _).alloc (Nat.le_refl _) _).trans ((setRow_only _ _ _).below (Nat.le_refl _))
    have B3 : Below w.heap.size w w3 := below_seq hb1 (below_seq hb2 hb3)
    have hw1' : w.heap.size ≤ w2.heap.size := Nat.le_trans hb1.size hb2.size
    rw [bools_64] at hw3
    rw [← hw3]
    have HR3 := Lib.hid hr3
    clear hw3 hr3 hb3 hb2 hb1 hsz CB CN
    obtain ⟨G, hG⟩ : ∃ G, G = w2.heap.size := ⟨_, rfl⟩
    rw [← hG] at HR3 hw1' ⊢
    clear hG
    go_loopw [19] (fun t wr => ∃ (i : Nat) (L : List Bool), t = .int .i64 i ∧ k ≤ i ∧ i ≤ 64 ∧ L.length = 64 ∧ Hid (∀ j, j < k → L.getD j false = Bx.getD j false) ∧ Hid (∀ j, k ≤ j → j < i → L.getD j false = Bx.getD (k - 1) false) ∧ Hid (Row wr G 47 (bools L)) ∧ Below w.heap.size w wr) (fun t _ => 64 - (intOf t).toNat)
    case atStart => exact ⟨k, Bx, rfl, Nat.le_refl _, hk2, hl64, fun j h => rfl, fun j h h' => by omega, HR3, B3⟩
    case round =>
      clear HR3 B3 h1 h2 h3 h4
      try clear t1
      try clear t2
      try clear t3
      try clear t4
      obtain ⟨i, L, rfl, hki, hi, hL, hlow, hup, hrow, hbr⟩ := hrel
      by_cases hlt : i < 64
      · obtain ⟨k', rfl⟩ : ∃ k', k = k' + 1 := ⟨k - 1, by omega⟩
        have hci := hrow.out.cell i
        rw [bools_get L i (by omega)] at hci
        have hck := hrow.out.cell k'
        rw [bools_get L k' (by omega), hlow.out k' (by omega)] at hck
        have hfree := hrow.out.free i
        obtain ⟨b, hb⟩ : ∃ b, b = Bx.getD k' false := ⟨_, rfl⟩
        rw [← hb] at hck
        have hr2 := Lib.hid (Row.set hrow.out i (.bool b))
        rw [bools_set] at hr2
        have s1 : Hid (∀ j, j < k' + 1 → (L.set i b).getD j false = Bx.getD j false) := Lib.hid fun j hj => by
          rw [show (L.set i b).getD j false = L.getD j false by simp [List.getD_eq_getElem?_getD, List.getElem?_set_ne (show i ≠ j by omega)]]
          exact hlow.out j hj
        have s2 : Hid (∀ j, k' + 1 ≤ j → j < i + 1 → (L.set i b).getD j false = Bx.getD (k' + 1 - 1) false) := Lib.hid fun j hj hj2 => by
          by_cases e : j = i
          · subst e; rw [Nat.add_sub_cancel, ← hb]; simp [List.getD_eq_getElem?_getD, hL, hlt]
          · rw [show (L.set i b).getD j false = L.getD j false by simp [List.getD_eq_getElem?_getD, List.getElem?_set_ne (Ne.symm e)]]
            exact hup.out j hj (by omega)
        clear hb hlow hup
        have ek : ((k' + 1 : Nat) : Int) - 1 = (k' : Int) := by omega
        go_wp2_with fail
        go_roundw
        case rel => exact ⟨i + 1, L.set i b, by go_num, by omega, by omega, by simp [hL], s1, s2, hr2, hbr.setCell (p := ⟨G, i, none⟩) (by show w.heap.size ≤ G; omega) _⟩
        case measure => simp [intOf]; omega
      · obtain rfl : i = 64 := by omega
        have hLd := fill_done hk1 hk2 hL (by rw [← HBx.out]; exact hlow.out) (by rw [← HBx.out]; exact fun j h h' => hup.out j h h')
        have hval : Hid (IntKind.u64.wrap n = ((bv L : Nat) : Int)) := Lib.hid (by rw [HNW.out, hLd])
        have hsz2 : (Tryz.prog.info? 47).map (·.size) = some (bools L).size := by rw [bools_size, hL]; kernel_rfl
        obtain ⟨V, hV⟩ : ∃ V, V = bv L := ⟨_, rfl⟩
        have CW0 := fun W => ref_Word W L hL
        rw [← hV] at CW0 hval
        have CW := Lib.hid CW0
        have hval' := hval.out
        clear hLd hlow hup hV CW0
        go_wp2_with (refine wpList_load_row rfl 47 _ rfl G rfl 47 (bools L) (0, 0) _ hrow.out Tryz.underlying47 rfl hsz2 ?_)
        refine (CW.out _).mono ?_
        rintro e w9 ⟨rfl, hb9⟩
        go_wp2_with fail
        go_ret
        exact ⟨rfl, below_seq hbr hb9⟩
  · have CN := Lib.hid (fun wr => bits_Narrow_x x v wr h1 h2 (show v < 1 ∨ 64 < v by omega))
    rcases (show v < 1 ∨ (1 ≤ v ∧ 64 < v) by omega) with hv | ⟨hv, hv2⟩
    all_goals
      clear hw
      go_wp2_with fail
      refine (CN.out _).mono ?_
      rintro e w' ⟨rfl, rfl⟩
      go_wp2_with fail
      go_ret
      exact ⟨rfl, hb1⟩

set_option maxRecDepth 100000 in
set_option maxHeartbeats 8000000 in
theorem signed_n2 (w : World) (ht : Tab w) (x v : Int) (u : Nat) (h1 : -9223372036854775808 ≤ x) (h2 : x ≤ 9223372036854775807) (hu : u < 18446744073709551616) (h3 : -9223372036854775808 ≤ v) (h4 : v ≤ 9223372036854775807) (hc : u = 9223372036854775808) :
    Calls Tryz.prog 5 #[.int .i64 x, .int .u64 u, .bool true, .int .i64 v] w (Keeps (.bool true) w) := by
  have CBG := Lib.hid (law_begun w ht)
  obtain ⟨a, ha⟩ : ∃ a, a = x.natAbs := ⟨_, rfl⟩
  have CA0 := fun wr => bits_Abs x wr h1 h2
  rw [← ha] at CA0
  have CS1 : Hid (∀ wr, Calls Tryz.prog 22 #[.bool (decide (x < 0)), .int .u64 a] wr (Rets (.tuple #[.int .i64 x, .bool true]) wr)) := Lib.hid fun wr => by
    by_cases hx : x < 0
    · rw [decide_eq_true hx]
      have := bits_Signed_n a wr (by omega) (by omega)
      rwa [show -((a : Nat) : Int) = x by omega] at this
    · rw [decide_eq_false hx]
      have e : x = ((a : Nat) : Int) := by omega
      subst e
      exact bits_Signed_p a wr (by omega) (by omega)
  have CA := Lib.hid CA0
  obtain ⟨c, hcc⟩ : ∃ c, c = -((u : Nat) : Int) := ⟨_, rfl⟩
  have CS2 : Hid (∀ wr, Calls Tryz.prog 22 #[.bool true, .int .u64 u] wr (Rets (.tuple #[.int .i64 c, .bool true]) wr)) := Lib.hid fun wr => by
    rw [hcc]; exact bits_Signed_n u wr hu (by omega)
  have CA2 : Hid (∀ wr, Calls Tryz.prog 21 #[.int .i64 c] wr (Rets (.int .u64 (u : Nat)) wr)) := Lib.hid fun wr => by
    have := bits_Abs c wr (by omega) (by omega)
    rwa [show c.natAbs = u by omega] at this
  have t1 : decide ((u : Int) ≤ 9223372036854775807) = false := by first | exact decide_eq_true (by omega) | exact decide_eq_false (by omega)
  have t2 : (((u : Nat) : Int) == 9223372036854775808) = true := by first | (rw [beq_iff_eq]; omega) | (rw [beq_eq_false_iff_ne]; omega)
  have t3 : (0 : Int) < (u : Int) := by omega
  have t4 : (c : Int) < 0 := by omega
  clear hcc
  clear CA0 ha hu hc ht
  go_enter Tryz.func5, Tryz.ntmps5
  go_wp2_with fail
  refine CBG.out.mono ?_
  rintro e w1 ⟨rfl, hb1⟩
  go_wp2_with fail
  refine (CA.out _).mono ?_
  rintro e w' ⟨rfl, rfl⟩
  go_wp2_with fail
  refine (CS1.out _).mono ?_
  rintro e w' ⟨rfl, rfl⟩
  go_wp2_with fail
  refine (CS2.out _).mono ?_
  rintro e w' ⟨rfl, rfl⟩
  go_wp2_with fail
  refine (CA2.out _).mono ?_
  rintro e w' ⟨rfl, rfl⟩
  clear CA2
  clear CBG CA CS1 CS2
  by_cases hw : 1 ≤ v ∧ v ≤ 64
  · obtain ⟨hw1, hw2⟩ := hw
    obtain ⟨k, rfl⟩ : ∃ k : Nat, v = (k : Int) := ⟨v.toNat, by omega⟩
    have hk1 : 1 ≤ k := by omega
    have hk2 : k ≤ 64 := by omega
    have CN0 := fun wr => bits_Narrow x k wr h1 h2 hk1 hk2
    unfold narrowI at CN0
    rw [narrow_bmod x k hk1 hk2] at CN0
    obtain ⟨n, hn⟩ : ∃ n, n = x.bmod (2 ^ k) := ⟨_, rfl⟩
    rw [← hn] at CN0
    have CN := Lib.hid CN0
    obtain ⟨X, hX⟩ : ∃ X, X = (x % 18446744073709551616).toNat := ⟨_, rfl⟩
    have hXb : X < 18446744073709551616 := by omega
    have eX : IntKind.u64.wrap x = (X : Int) := by rw [IntKind.wrap_u64, hX]; omega
    have hnw := narrow_word (x := x) (k := k) (X := X) hk1 hk2 hX
    rw [← hn] at hnw
    have HNW := Lib.hid hnw
    have CB := Lib.hid (fun wr => ref_Bits wr X hXb)
    have hl64 : (bitsOf X).length = 64 := by simp [bitsOf]
    obtain ⟨Bx, hBx⟩ : ∃ Bx, Bx = bitsOf X := ⟨_, rfl⟩
    rw [← hBx] at hl64 CB
    have HBx := Lib.hid hBx
    have hsz : (Tryz.prog.info? 47).map (·.size) = some (bools Bx).size := by rw [bools_size, hl64]; kernel_rfl
    have hbe : (n == x) = (n == x) := rfl
    obtain ⟨bb, hbb⟩ : ∃ bb, bb = (n == x) := ⟨_, rfl⟩
    rw [← hbb] at CN
    have hbb2 := hbb.symm
    clear CN0 hn hX hXb hnw hBx hbe hbb
    go_wp2_with fail
    refine (CN.out _).mono ?_
    rintro e w' ⟨rfl, rfl⟩
    go_wp2_with fail
    refine (CB.out _).mono ?_
    rintro e w2 ⟨rfl, hb2⟩
    go_wp2_with (refine wpList_store_row rfl 47 _ _ rfl w2.heap.size (bools Bx) rfl rfl 47 _ (heap_alloc_new _ _) hsz (by rw [bools_size, hl64]; rfl) (bools_one Bx) ?_)
    obtain ⟨w3, hw3⟩ : ∃ w3, w3 = (w2.alloc (.cells (bools (List.replicate 64 false)) 47)).setRow w2.heap.size (bools Bx) := ⟨_, rfl⟩
    have hr3 : Row w3 w2.heap.size 47 (bools Bx) := by
      rw [hw3]; exact setRow_heap _ _ _ _ _ _ (heap_alloc_new _ _)
    have hb3 : Below w2.heap.size w2 w3 := by
      rw [hw3]; exact ((Below.refl _ _).alloc (Nat.le_refl _) _).trans ((setRow_only _ _ _).below (Nat.le_refl _))
    have B3 : Below w.heap.size w w3 := below_seq hb1 (below_seq hb2 hb3)
    have hw1' : w.heap.size ≤ w2.heap.size := Nat.le_trans hb1.size hb2.size
    rw [bools_64] at hw3
    rw [← hw3]
    have HR3 := Lib.hid hr3
    clear hw3 hr3 hb3 hb2 hb1 hsz CB CN
    obtain ⟨G, hG⟩ : ∃ G, G = w2.heap.size := ⟨_, rfl⟩
    rw [← hG] at HR3 hw1' ⊢
    clear hG
    go_loopw [19] (fun t wr => ∃ (i : Nat) (L : List Bool), t = .int .i64 i ∧ k ≤ i ∧ i ≤ 64 ∧ L.length = 64 ∧ Hid (∀ j, j < k → L.getD j false = Bx.getD j false) ∧ Hid (∀ j, k ≤ j → j < i → L.getD j false = Bx.getD (k - 1) false) ∧ Hid (Row wr G 47 (bools L)) ∧ Below w.heap.size w wr) (fun t _ => 64 - (intOf t).toNat)
    case atStart => exact ⟨k, Bx, rfl, Nat.le_refl _, hk2, hl64, fun j h => rfl, fun j h h' => by omega, HR3, B3⟩
    case round =>
      clear HR3 B3 h1 h2 h3 h4
      try clear t1
      try clear t2
      try clear t3
      try clear t4
      obtain ⟨i, L, rfl, hki, hi, hL, hlow, hup, hrow, hbr⟩ := hrel
      by_cases hlt : i < 64
      · obtain ⟨k', rfl⟩ : ∃ k', k = k' + 1 := ⟨k - 1, by omega⟩
        have hci := hrow.out.cell i
        rw [bools_get L i (by omega)] at hci
        have hck := hrow.out.cell k'
        rw [bools_get L k' (by omega), hlow.out k' (by omega)] at hck
        have hfree := hrow.out.free i
        obtain ⟨b, hb⟩ : ∃ b, b = Bx.getD k' false := ⟨_, rfl⟩
        rw [← hb] at hck
        have hr2 := Lib.hid (Row.set hrow.out i (.bool b))
        rw [bools_set] at hr2
        have s1 : Hid (∀ j, j < k' + 1 → (L.set i b).getD j false = Bx.getD j false) := Lib.hid fun j hj => by
          rw [show (L.set i b).getD j false = L.getD j false by simp [List.getD_eq_getElem?_getD, List.getElem?_set_ne (show i ≠ j by omega)]]
          exact hlow.out j hj
        have s2 : Hid (∀ j, k' + 1 ≤ j → j < i + 1 → (L.set i b).getD j false = Bx.getD (k' + 1 - 1) false) := Lib.hid fun j hj hj2 => by
          by_cases e : j = i
          · subst e; rw [Nat.add_sub_cancel, ← hb]; simp [List.getD_eq_getElem?_getD, hL, hlt]
          · rw [show (L.set i b).getD j false = L.getD j false by simp [List.getD_eq_getElem?_getD, List.getElem?_set_ne (Ne.symm e)]]
            exact hup.out j hj (by omega)
        clear hb hlow hup
        have ek : ((k' + 1 : Nat) : Int) - 1 = (k' : Int) := by omega
        go_wp2_with fail
        go_roundw
        case rel => exact ⟨i + 1, L.set i b, by go_num, by omega, by omega, by simp [hL], s1, s2, hr2, hbr.setCell (p := ⟨G, i, none⟩) (by show w.heap.size ≤ G; omega) _⟩
        case measure => simp [intOf]; omega
      · obtain rfl : i = 64 := by omega
        have hLd := fill_done hk1 hk2 hL (by rw [← HBx.out]; exact hlow.out) (by rw [← HBx.out]; exact fun j h h' => hup.out j h h')
        have hval : Hid (IntKind.u64.wrap n = ((bv L : Nat) : Int)) := Lib.hid (by rw [HNW.out, hLd])
        have hsz2 : (Tryz.prog.info? 47).map (·.size) = some (bools L).size := by rw [bools_size, hL]; kernel_rfl
        obtain ⟨V, hV⟩ : ∃ V, V = bv L := ⟨_, rfl⟩
        have CW0 := fun W => ref_Word W L hL
        rw [← hV] at CW0 hval
        have CW := Lib.hid CW0
        have hval' := hval.out
        clear hLd hlow hup hV CW0
        go_wp2_with (refine wpList_load_row rfl 47 _ rfl G rfl 47 (bools L) (0, 0) _ hrow.out Tryz.underlying47 rfl hsz2 ?_)
        refine (CW.out _).mono ?_
        rintro e w9 ⟨rfl, hb9⟩
        go_wp2_with fail
        go_ret
        exact ⟨rfl, below_seq hbr hb9⟩
  · have CN := Lib.hid (fun wr => bits_Narrow_x x v wr h1 h2 (show v < 1 ∨ 64 < v by omega))
    rcases (show v < 1 ∨ (1 ≤ v ∧ 64 < v) by omega) with hv | ⟨hv, hv2⟩
    all_goals
      clear hw
      go_wp2_with fail
      refine (CN.out _).mono ?_
      rintro e w' ⟨rfl, rfl⟩
      go_wp2_with fail
      go_ret
      exact ⟨rfl, hb1⟩

set_option maxRecDepth 100000 in
set_option maxHeartbeats 8000000 in
theorem signed_nx (w : World) (ht : Tab w) (x v : Int) (u : Nat) (h1 : -9223372036854775808 ≤ x) (h2 : x ≤ 9223372036854775807) (hu : u < 18446744073709551616) (h3 : -9223372036854775808 ≤ v) (h4 : v ≤ 9223372036854775807) (hc : 9223372036854775808 < u) :
    Calls Tryz.prog 5 #[.int .i64 x, .int .u64 u, .bool true, .int .i64 v] w (Keeps (.bool true) w) := by
  have CBG := Lib.hid (law_begun w ht)
  obtain ⟨a, ha⟩ : ∃ a, a = x.natAbs := ⟨_, rfl⟩
  have CA0 := fun wr => bits_Abs x wr h1 h2
  rw [← ha] at CA0
  have CS1 : Hid (∀ wr, Calls Tryz.prog 22 #[.bool (decide (x < 0)), .int .u64 a] wr (Rets (.tuple #[.int .i64 x, .bool true]) wr)) := Lib.hid fun wr => by
    by_cases hx : x < 0
    · rw [decide_eq_true hx]
      have := bits_Signed_n a wr (by omega) (by omega)
      rwa [show -((a : Nat) : Int) = x by omega] at this
    · rw [decide_eq_false hx]
      have e : x = ((a : Nat) : Int) := by omega
      subst e
      exact bits_Signed_p a wr (by omega) (by omega)
  have CA := Lib.hid CA0
  have CS2 : Hid (∀ wr, Calls Tryz.prog 22 #[.bool true, .int .u64 u] wr (Rets (.tuple #[.int .i64 0, .bool false]) wr)) := Lib.hid fun wr => bits_Signed_x true u wr hu (by omega) (fun h => by first | omega | cases h)
  have t1 : decide ((u : Int) ≤ 9223372036854775807) = false := by first | exact decide_eq_true (by omega) | exact decide_eq_false (by omega)
  have t2 : (((u : Nat) : Int) == 9223372036854775808) = false := by first | (rw [beq_iff_eq]; omega) | (rw [beq_eq_false_iff_ne]; omega)
  clear CA0 ha hu hc ht
  go_enter Tryz.func5, Tryz.ntmps5
  go_wp2_with fail
  refine CBG.out.mono ?_
  rintro e w1 ⟨rfl, hb1⟩
  go_wp2_with fail
  refine (CA.out _).mono ?_
  rintro e w' ⟨rfl, rfl⟩
  go_wp2_with fail
  refine (CS1.out _).mono ?_
  rintro e w' ⟨rfl, rfl⟩
  go_wp2_with fail
  refine (CS2.out _).mono ?_
  rintro e w' ⟨rfl, rfl⟩
  go_wp2_with fail
  clear CBG CA CS1 CS2
  by_cases hw : 1 ≤ v ∧ v ≤ 64
  · obtain ⟨hw1, hw2⟩ := hw
    obtain ⟨k, rfl⟩ : ∃ k : Nat, v = (k : Int) := ⟨v.toNat, by omega⟩
    have hk1 : 1 ≤ k := by omega
    have hk2 : k ≤ 64 := by omega
    have CN0 := fun wr => bits_Narrow x k wr h1 h2 hk1 hk2
    unfold narrowI at CN0
    rw [narrow_bmod x k hk1 hk2] at CN0
    obtain ⟨n, hn⟩ : ∃ n, n = x.bmod (2 ^ k) := ⟨_, rfl⟩
    rw [← hn] at CN0
    have CN := Lib.hid CN0
    obtain ⟨X, hX⟩ : ∃ X, X = (x % 18446744073709551616).toNat := ⟨_, rfl⟩
    have hXb : X < 18446744073709551616 := by omega
    have eX : IntKind.u64.wrap x = (X : Int) := by rw [IntKind.wrap_u64, hX]; omega
    have hnw := narrow_word (x := x) (k := k) (X := X) hk1 hk2 hX
    rw [← hn] at hnw
    have HNW := Lib.hid hnw
    have CB := Lib.hid (fun wr => ref_Bits wr X hXb)
    have hl64 : (bitsOf X).length = 64 := by simp [bitsOf]
    obtain ⟨Bx, hBx⟩ : ∃ Bx, Bx = bitsOf X := ⟨_, rfl⟩
    rw [← hBx] at hl64 CB
    have HBx := Lib.hid hBx
    have hsz : (Tryz.prog.info? 47).map (·.size) = some (bools Bx).size := by rw [bools_size, hl64]; kernel_rfl
    have hbe : (n == x) = (n == x) := rfl
    obtain ⟨bb, hbb⟩ : ∃ bb, bb = (n == x) := ⟨_, rfl⟩
    rw [← hbb] at CN
    have hbb2 := hbb.symm
    clear CN0 hn hX hXb hnw hBx hbe hbb
    go_wp2_with fail
    refine (CN.out _).mono ?_
    rintro e w' ⟨rfl, rfl⟩
    go_wp2_with fail
    refine (CB.out _).mono ?_
    rintro e w2 ⟨rfl, hb2⟩
    go_wp2_with (refine wpList_store_row rfl 47 _ _ rfl w2.heap.size (bools Bx) rfl rfl 47 _ (heap_alloc_new _ _) hsz (by rw [bools_size, hl64]; rfl) (bools_one Bx) ?_)
    obtain ⟨w3, hw3⟩ : ∃ w3, w3 = (w2.alloc (.cells (bools (List.replicate 64 false)) 47)).setRow w2.heap.size (bools Bx) := ⟨_, rfl⟩
    have hr3 : Row w3 w2.heap.size 47 (bools Bx) := by
      rw [hw3]; exact setRow_heap _ _ _ _ _ _ (heap_alloc_new _ _)
    have hb3 : Below w2.heap.size w2 w3 := by
      rw [hw3]; exact ((Below.refl _ _).alloc (Nat.le_refl _) _).trans ((setRow_only _ _ _).below (Nat.le_refl _))
    have B3 : Below w.heap.size w w3 := below_seq hb1 (below_seq hb2 hb3)
    have hw1' : w.heap.size ≤ w2.heap.size := Nat.le_trans hb1.size hb2.size
    rw [bools_64] at hw3
    rw [← hw3]
    have HR3 := Lib.hid hr3
    clear hw3 hr3 hb3 hb2 hb1 hsz CB CN
    obtain ⟨G, hG⟩ : ∃ G, G = w2.heap.size := ⟨_, rfl⟩
    rw [← hG] at HR3 hw1' ⊢
    clear hG
    go_loopw [19] (fun t wr => ∃ (i : Nat) (L : List Bool), t = .int .i64 i ∧ k ≤ i ∧ i ≤ 64 ∧ L.length = 64 ∧ Hid (∀ j, j < k → L.getD j false = Bx.getD j false) ∧ Hid (∀ j, k ≤ j → j < i → L.getD j false = Bx.getD (k - 1) false) ∧ Hid (Row wr G 47 (bools L)) ∧ Below w.heap.size w wr) (fun t _ => 64 - (intOf t).toNat)
    case atStart => exact ⟨k, Bx, rfl, Nat.le_refl _, hk2, hl64, fun j h => rfl, fun j h h' => by omega, HR3, B3⟩
    case round =>
      clear HR3 B3 h1 h2 h3 h4
      try clear t1
      try clear t2
      try clear t3
      try clear t4
      obtain ⟨i, L, rfl, hki, hi, hL, hlow, hup, hrow, hbr⟩ := hrel
      by_cases hlt : i < 64
      · obtain ⟨k', rfl⟩ : ∃ k', k = k' + 1 := ⟨k - 1, by omega⟩
        have hci := hrow.out.cell i
        rw [bools_get L i (by omega)] at hci
        have hck := hrow.out.cell k'
        rw [bools_get L k' (by omega), hlow.out k' (by omega)] at hck
        have hfree := hrow.out.free i
        obtain ⟨b, hb⟩ : ∃ b, b = Bx.getD k' false := ⟨_, rfl⟩
        rw [← hb] at hck
        have hr2 := Lib.hid (Row.set hrow.out i (.bool b))
        rw [bools_set] at hr2
        have s1 : Hid (∀ j, j < k' + 1 → (L.set i b).getD j false = Bx.getD j false) := Lib.hid fun j hj => by
          rw [show (L.set i b).getD j false = L.getD j false by simp [List.getD_eq_getElem?_getD, List.getElem?_set_ne (show i ≠ j by omega)]]
          exact hlow.out j hj
        have s2 : Hid (∀ j, k' + 1 ≤ j → j < i + 1 → (L.set i b).getD j false = Bx.getD (k' + 1 - 1) false) := Lib.hid fun j hj hj2 => by
          by_cases e : j = i
          · subst e; rw [Nat.add_sub_cancel, ← hb]; simp [List.getD_eq_getElem?_getD, hL, hlt]
          · rw [show (L.set i b).getD j false = L.getD j false by simp [List.getD_eq_getElem?_getD, List.getElem?_set_ne (Ne.symm e)]]
            exact hup.out j hj (by omega)
        clear hb hlow hup
        have ek : ((k' + 1 : Nat) : Int) - 1 = (k' : Int) := by omega
        go_wp2_with fail
        go_roundw
        case rel => exact ⟨i + 1, L.set i b, by go_num, by omega, by omega, by simp [hL], s1, s2, hr2, hbr.setCell (p := ⟨G, i, none⟩) (by show w.heap.size ≤ G; omega) _⟩
        case measure => simp [intOf]; omega
      · obtain rfl : i = 64 := by omega
        have hLd := fill_done hk1 hk2 hL (by rw [← HBx.out]; exact hlow.out) (by rw [← HBx.out]; exact fun j h h' => hup.out j h h')
        have hval : Hid (IntKind.u64.wrap n = ((bv L : Nat) : Int)) := Lib.hid (by rw [HNW.out, hLd])
        have hsz2 : (Tryz.prog.info? 47).map (·.size) = some (bools L).size := by rw [bools_size, hL]; kernel_rfl
        obtain ⟨V, hV⟩ : ∃ V, V = bv L := ⟨_, rfl⟩
        have CW0 := fun W => ref_Word W L hL
        rw [← hV] at CW0 hval
        have CW := Lib.hid CW0
        have hval' := hval.out
        clear hLd hlow hup hV CW0
        go_wp2_with (refine wpList_load_row rfl 47 _ rfl G rfl 47 (bools L) (0, 0) _ hrow.out Tryz.underlying47 rfl hsz2 ?_)
        refine (CW.out _).mono ?_
        rintro e w9 ⟨rfl, hb9⟩
        go_wp2_with fail
        go_ret
        exact ⟨rfl, below_seq hbr hb9⟩
  · have CN := Lib.hid (fun wr => bits_Narrow_x x v wr h1 h2 (show v < 1 ∨ 64 < v by omega))
    rcases (show v < 1 ∨ (1 ≤ v ∧ 64 < v) by omega) with hv | ⟨hv, hv2⟩
    all_goals
      clear hw
      go_wp2_with fail
      refine (CN.out _).mono ?_
      rintro e w' ⟨rfl, rfl⟩
      go_wp2_with fail
      go_ret
      exact ⟨rfl, hb1⟩

set_option maxRecDepth 100000 in
set_option maxHeartbeats 8000000 in
theorem signed_p0 (w : World) (ht : Tab w) (x v : Int) (u : Nat) (h1 : -9223372036854775808 ≤ x) (h2 : x ≤ 9223372036854775807) (hu : u < 18446744073709551616) (h3 : -9223372036854775808 ≤ v) (h4 : v ≤ 9223372036854775807) (hc : u = 0) :
    Calls Tryz.prog 5 #[.int .i64 x, .int .u64 u, .bool false, .int .i64 v] w (Keeps (.bool true) w) := by
  have CBG := Lib.hid (law_begun w ht)
  obtain ⟨a, ha⟩ : ∃ a, a = x.natAbs := ⟨_, rfl⟩
  have CA0 := fun wr => bits_Abs x wr h1 h2
  rw [← ha] at CA0
  have CS1 : Hid (∀ wr, Calls Tryz.prog 22 #[.bool (decide (x < 0)), .int .u64 a] wr (Rets (.tuple #[.int .i64 x, .bool true]) wr)) := Lib.hid fun wr => by
    by_cases hx : x < 0
    · rw [decide_eq_true hx]
      have := bits_Signed_n a wr (by omega) (by omega)
      rwa [show -((a : Nat) : Int) = x by omega] at this
    · rw [decide_eq_false hx]
      have e : x = ((a : Nat) : Int) := by omega
      subst e
      exact bits_Signed_p a wr (by omega) (by omega)
  have CA := Lib.hid CA0
  obtain ⟨c, hcc⟩ : ∃ c, c = ((u : Nat) : Int) := ⟨_, rfl⟩
  have CS2 : Hid (∀ wr, Calls Tryz.prog 22 #[.bool false, .int .u64 u] wr (Rets (.tuple #[.int .i64 c, .bool true]) wr)) := Lib.hid fun wr => by
    rw [hcc]; exact bits_Signed_p u wr hu (by omega)
  have CA2 : Hid (∀ wr, Calls Tryz.prog 21 #[.int .i64 c] wr (Rets (.int .u64 (u : Nat)) wr)) := Lib.hid fun wr => by
    have := bits_Abs c wr (by omega) (by omega)
    rwa [show c.natAbs = u by omega] at this
  have t1 : decide ((u : Int) ≤ 9223372036854775807) = true := by first | exact decide_eq_true (by omega) | exact decide_eq_false (by omega)
  have t3 : ¬ (0 : Int) < (u : Int) := by omega
  clear hcc
  clear CA0 ha hu hc ht
  go_enter Tryz.func5, Tryz.ntmps5
  go_wp2_with fail
  refine CBG.out.mono ?_
  rintro e w1 ⟨rfl, hb1⟩
  go_wp2_with fail
  refine (CA.out _).mono ?_
  rintro e w' ⟨rfl, rfl⟩
  go_wp2_with fail
  refine (CS1.out _).mono ?_
  rintro e w' ⟨rfl, rfl⟩
  go_wp2_with fail
  refine (CS2.out _).mono ?_
  rintro e w' ⟨rfl, rfl⟩
  go_wp2_with fail
  refine (CA2.out _).mono ?_
  rintro e w' ⟨rfl, rfl⟩
  clear CA2
  clear CBG CA CS1 CS2
  by_cases hw : 1 ≤ v ∧ v ≤ 64
  · obtain ⟨hw1, hw2⟩ := hw
    obtain ⟨k, rfl⟩ : ∃ k : Nat, v = (k : Int) := ⟨v.toNat, by omega⟩
    have hk1 : 1 ≤ k := by omega
    have hk2 : k ≤ 64 := by omega
    have CN0 := fun wr => bits_Narrow x k wr h1 h2 hk1 hk2
    unfold narrowI at CN0
    rw [narrow_bmod x k hk1 hk2] at CN0
    obtain ⟨n, hn⟩ : ∃ n, n = x.bmod (2 ^ k) := ⟨_, rfl⟩
    rw [← hn] at CN0
    have CN := Lib.hid CN0
    obtain ⟨X, hX⟩ : ∃ X, X = (x % 18446744073709551616).toNat := ⟨_, rfl⟩
    have hXb : X < 18446744073709551616 := by omega
    have eX : IntKind.u64.wrap x = (X : Int) := by rw [IntKind.wrap_u64, hX]; omega
    have hnw := narrow_word (x := x) (k := k) (X := X) hk1 hk2 hX
    rw [← hn] at hnw
    have HNW := Lib.hid hnw
    have CB := Lib.hid (fun wr => ref_Bits wr X hXb)
    have hl64 : (bitsOf X).length = 64 := by simp [bitsOf]
    obtain ⟨Bx, hBx⟩ : ∃ Bx, Bx = bitsOf X := ⟨_, rfl⟩
    rw [← hBx] at hl64 CB
    have HBx := Lib.hid hBx
    have hsz : (Tryz.prog.info? 47).map (·.size) = some (bools Bx).size := by rw [bools_size, hl64]; kernel_rfl
    have hbe : (n == x) = (n == x) := rfl
    obtain ⟨bb, hbb⟩ : ∃ bb, bb = (n == x) := ⟨_, rfl⟩
    rw [← hbb] at CN
    have hbb2 := hbb.symm
    clear CN0 hn hX hXb hnw hBx hbe hbb
    go_wp2_with fail
    refine (CN.out _).mono ?_
    rintro e w' ⟨rfl, rfl⟩
    go_wp2_with fail
    refine (CB.out _).mono ?_
    rintro e w2 ⟨rfl, hb2⟩
    go_wp2_with (refine wpList_store_row rfl 47 _ _ rfl w2.heap.size (bools Bx) rfl rfl 47 _ (heap_alloc_new _ _) hsz (by rw [bools_size, hl64]; rfl) (bools_one Bx) ?_)
    obtain ⟨w3, hw3⟩ : ∃ w3, w3 = (w2.alloc (.cells (bools (List.replicate 64 false)) 47)).setRow w2.heap.size (bools Bx) := ⟨_, rfl⟩
    have hr3 : Row w3 w2.heap.size 47 (bools Bx) := by
      rw [hw3]; exact setRow_heap _ _ _ _ _ _ (heap_alloc_new _ _)
    have hb3 : Below w2.heap.size w2 w3 := by
      rw [hw3]; exact ((Below.refl _ _).alloc (Nat.le_refl _) _).trans ((setRow_only _ _ _).below (Nat.le_refl _))
    have B3 : Below w.heap.size w w3 := below_seq hb1 (below_seq hb2 hb3)
    have hw1' : w.heap.size ≤ w2.heap.size := Nat.le_trans hb1.size hb2.size
    rw [bools_64] at hw3
    rw [← hw3]
    have HR3 := Lib.hid hr3
    clear hw3 hr3 hb3 hb2 hb1 hsz CB CN
    obtain ⟨G, hG⟩ : ∃ G, G = w2.heap.size := ⟨_, rfl⟩
    rw [← hG] at HR3 hw1' ⊢
    clear hG
    go_loopw [19] (fun t wr => ∃ (i : Nat) (L : List Bool), t = .int .i64 i ∧ k ≤ i ∧ i ≤ 64 ∧ L.length = 64 ∧ Hid (∀ j, j < k → L.getD j false = Bx.getD j false) ∧ Hid (∀ j, k ≤ j → j < i → L.getD j false = Bx.getD (k - 1) false) ∧ Hid (Row wr G 47 (bools L)) ∧ Below w.heap.size w wr) (fun t _ => 64 - (intOf t).toNat)
    case atStart => exact ⟨k, Bx, rfl, Nat.le_refl _, hk2, hl64, fun j h => rfl, fun j h h' => by omega, HR3, B3⟩
    case round =>
      clear HR3 B3 h1 h2 h3 h4
      try clear t1
      try clear t2
      try clear t3
      try clear t4
      obtain ⟨i, L, rfl, hki, hi, hL, hlow, hup, hrow, hbr⟩ := hrel
      by_cases hlt : i < 64
      · obtain ⟨k', rfl⟩ : ∃ k', k = k' + 1 := ⟨k - 1, by omega⟩
        have hci := hrow.out.cell i
        rw [bools_get L i (by omega)] at hci
        have hck := hrow.out.cell k'
        rw [bools_get L k' (by omega), hlow.out k' (by omega)] at hck
        have hfree := hrow.out.free i
        obtain ⟨b, hb⟩ : ∃ b, b = Bx.getD k' false := ⟨_, rfl⟩
        rw [← hb] at hck
        have hr2 := Lib.hid (Row.set hrow.out i (.bool b))
        rw [bools_set] at hr2
        have s1 : Hid (∀ j, j < k' + 1 → (L.set i b).getD j false = Bx.getD j false) := Lib.hid fun j hj => by
          rw [show (L.set i b).getD j false = L.getD j false by simp [List.getD_eq_getElem?_getD, List.getElem?_set_ne (show i ≠ j by omega)]]
          exact hlow.out j hj
        have s2 : Hid (∀ j, k' + 1 ≤ j → j < i + 1 → (L.set i b).getD j false = Bx.getD (k' + 1 - 1) false) := Lib.hid fun j hj hj2 => by
          by_cases e : j = i
          · subst e; rw [Nat.add_sub_cancel, ← hb]; simp [List.getD_eq_getElem?_getD, hL, hlt]
          · rw [show (L.set i b).getD j false = L.getD j false by simp [List.getD_eq_getElem?_getD, List.getElem?_set_ne (Ne.symm e)]]
            exact hup.out j hj (by omega)
        clear hb hlow hup
        have ek : ((k' + 1 : Nat) : Int) - 1 = (k' : Int) := by omega
        go_wp2_with fail
        go_roundw
        case rel => exact ⟨i + 1, L.set i b, by go_num, by omega, by omega, by simp [hL], s1, s2, hr2, hbr.setCell (p := ⟨G, i, none⟩) (by show w.heap.size ≤ G; omega) _⟩
        case measure => simp [intOf]; omega
      · obtain rfl : i = 64 := by omega
        have hLd := fill_done hk1 hk2 hL (by rw [← HBx.out]; exact hlow.out) (by rw [← HBx.out]; exact fun j h h' => hup.out j h h')
        have hval : Hid (IntKind.u64.wrap n = ((bv L : Nat) : Int)) := Lib.hid (by rw [HNW.out, hLd])
        have hsz2 : (Tryz.prog.info? 47).map (·.size) = some (bools L).size := by rw [bools_size, hL]; kernel_rfl
        obtain ⟨V, hV⟩ : ∃ V, V = bv L := ⟨_, rfl⟩
        have CW0 := fun W => ref_Word W L hL
        rw [← hV] at CW0 hval
        have CW := Lib.hid CW0
        have hval' := hval.out
        clear hLd hlow hup hV CW0
        go_wp2_with (refine wpList_load_row rfl 47 _ rfl G rfl 47 (bools L) (0, 0) _ hrow.out Tryz.underlying47 rfl hsz2 ?_)
        refine (CW.out _).mono ?_
        rintro e w9 ⟨rfl, hb9⟩
        go_wp2_with fail
        go_ret
        exact ⟨rfl, below_seq hbr hb9⟩
  · have CN := Lib.hid (fun wr => bits_Narrow_x x v wr h1 h2 (show v < 1 ∨ 64 < v by omega))
    rcases (show v < 1 ∨ (1 ≤ v ∧ 64 < v) by omega) with hv | ⟨hv, hv2⟩
    all_goals
      clear hw
      go_wp2_with fail
      refine (CN.out _).mono ?_
      rintro e w' ⟨rfl, rfl⟩
      go_wp2_with fail
      go_ret
      exact ⟨rfl, hb1⟩

set_option maxRecDepth 100000 in
set_option maxHeartbeats 8000000 in
theorem signed_p1 (w : World) (ht : Tab w) (x v : Int) (u : Nat) (h1 : -9223372036854775808 ≤ x) (h2 : x ≤ 9223372036854775807) (hu : u < 18446744073709551616) (h3 : -9223372036854775808 ≤ v) (h4 : v ≤ 9223372036854775807) (hc : 0 < u ∧ u ≤ 9223372036854775807) :
    Calls Tryz.prog 5 #[.int .i64 x, .int .u64 u, .bool false, .int .i64 v] w (Keeps (.bool true) w) := by
  have CBG := Lib.hid (law_begun w ht)
  obtain ⟨a, ha⟩ : ∃ a, a = x.natAbs := ⟨_, rfl⟩
  have CA0 := fun wr => bits_Abs x wr h1 h2
  rw [← ha] at CA0
  have CS1 : Hid (∀ wr, Calls Tryz.prog 22 #[.bool (decide (x < 0)), .int .u64 a] wr (Rets (.tuple #[.int .i64 x, .bool true]) wr)) := Lib.hid fun wr => by
    by_cases hx : x < 0
    · rw [decide_eq_true hx]
      have := bits_Signed_n a wr (by omega) (by omega)
      rwa [show -((a : Nat) : Int) = x by omega] at this
    · rw [decide_eq_false hx]
      have e : x = ((a : Nat) : Int) := by omega
      subst e
      exact bits_Signed_p a wr (by omega) (by omega)
  have CA := Lib.hid CA0
  obtain ⟨c, hcc⟩ : ∃ c, c = ((u : Nat) : Int) := ⟨_, rfl⟩
  have CS2 : Hid (∀ wr, Calls Tryz.prog 22 #[.bool false, .int .u64 u] wr (Rets (.tuple #[.int .i64 c, .bool true]) wr)) := Lib.hid fun wr => by
    rw [hcc]; exact bits_Signed_p u wr hu (by omega)
  have CA2 : Hid (∀ wr, Calls Tryz.prog 21 #[.int .i64 c] wr (Rets (.int .u64 (u : Nat)) wr)) := Lib.hid fun wr => by
    have := bits_Abs c wr (by omega) (by omega)
    rwa [show c.natAbs = u by omega] at this
  have t1 : decide ((u : Int) ≤ 9223372036854775807) = true := by first | exact decide_eq_true (by omega) | exact decide_eq_false (by omega)
  have t3 : (0 : Int) < (u : Int) := by omega
  have t4 : ¬ (c : Int) < 0 := by omega
  clear hcc
  clear CA0 ha hu hc ht
  go_enter Tryz.func5, Tryz.ntmps5
  go_wp2_with fail
  refine CBG.out.mono ?_
  rintro e w1 ⟨rfl, hb1⟩
  go_wp2_with fail
  refine (CA.out _).mono ?_
  rintro e w' ⟨rfl, rfl⟩
  go_wp2_with fail
  refine (CS1.out _).mono ?_
  rintro e w' ⟨rfl, rfl⟩
  go_wp2_with fail
  refine (CS2.out _).mono ?_
  rintro e w' ⟨rfl, rfl⟩
  go_wp2_with fail
  refine (CA2.out _).mono ?_
  rintro e w' ⟨rfl, rfl⟩
  clear CA2
  clear CBG CA CS1 CS2
  by_cases hw : 1 ≤ v ∧ v ≤ 64
  · obtain ⟨hw1, hw2⟩ := hw
    obtain ⟨k, rfl⟩ : ∃ k : Nat, v = (k : Int) := ⟨v.toNat, by omega⟩
    have hk1 : 1 ≤ k := by omega
    have hk2 : k ≤ 64 := by omega
    have CN0 := fun wr => bits_Narrow x k wr h1 h2 hk1 hk2
    unfold narrowI at CN0
    rw [narrow_bmod x k hk1 hk2] at CN0
    obtain ⟨n, hn⟩ : ∃ n, n = x.bmod (2 ^ k) := ⟨_, rfl⟩
    rw [← hn] at CN0
    have CN := Lib.hid CN0
    obtain ⟨X, hX⟩ : ∃ X, X = (x % 18446744073709551616).toNat := ⟨_, rfl⟩
    have hXb : X < 18446744073709551616 := by omega
    have eX : IntKind.u64.wrap x = (X : Int) := by rw [IntKind.wrap_u64, hX]; omega
    have hnw := narrow_word (x := x) (k := k) (X := X) hk1 hk2 hX
    rw [← hn] at hnw
    have HNW := Lib.hid hnw
    have CB := Lib.hid (fun wr => ref_Bits wr X hXb)
    have hl64 : (bitsOf X).length = 64 := by simp [bitsOf]
    obtain ⟨Bx, hBx⟩ : ∃ Bx, Bx = bitsOf X := ⟨_, rfl⟩
    rw [← hBx] at hl64 CB
    have HBx := Lib.hid hBx
    have hsz : (Tryz.prog.info? 47).map (·.size) = some (bools Bx).size := by rw [bools_size, hl64]; kernel_rfl
    have hbe : (n == x) = (n == x) := rfl
    obtain ⟨bb, hbb⟩ : ∃ bb, bb = (n == x) := ⟨_, rfl⟩
    rw [← hbb] at CN
    have hbb2 := hbb.symm
    clear CN0 hn hX hXb hnw hBx hbe hbb
    go_wp2_with fail
    refine (CN.out _).mono ?_
    rintro e w' ⟨rfl, rfl⟩
    go_wp2_with fail
    refine (CB.out _).mono ?_
    rintro e w2 ⟨rfl, hb2⟩
    go_wp2_with (refine wpList_store_row rfl 47 _ _ rfl w2.heap.size (bools Bx) rfl rfl 47 _ (heap_alloc_new _ _) hsz (by rw [bools_size, hl64]; rfl) (bools_one Bx) ?_)
    obtain ⟨w3, hw3⟩ : ∃ w3, w3 = (w2.alloc (.cells (bools (List.replicate 64 false)) 47)).setRow w2.heap.size (bools Bx) := ⟨_, rfl⟩
    have hr3 : Row w3 w2.heap.size 47 (bools Bx) := by
      rw [hw3]; exact setRow_heap _ _ _ _ _ _ (heap_alloc_new _ _)
    have hb3 : Below w2.heap.size w2 w3 := by
      rw [hw3]; exact ((Below.refl _ _).alloc (Nat.le_refl _) _).trans ((setRow_only _ _ _).below (Nat.le_refl _))
    have B3 : Below w.heap.size w w3 := below_seq hb1 (below_seq hb2 hb3)
    have hw1' : w.heap.size ≤ w2.heap.size := Nat.le_trans hb1.size hb2.size
    rw [bools_64] at hw3
    rw [← hw3]
    have HR3 := Lib.hid hr3
    clear hw3 hr3 hb3 hb2 hb1 hsz CB CN
    obtain ⟨G, hG⟩ : ∃ G, G = w2.heap.size := ⟨_, rfl⟩
    rw [← hG] at HR3 hw1' ⊢
    clear hG
    go_loopw [19] (fun t wr => ∃ (i : Nat) (L : List Bool), t = .int .i64 i ∧ k ≤ i ∧ i ≤ 64 ∧ L.length = 64 ∧ Hid (∀ j, j < k → L.getD j false = Bx.getD j false) ∧ Hid (∀ j, k ≤ j → j < i → L.getD j false = Bx.getD (k - 1) false) ∧ Hid (Row wr G 47 (bools L)) ∧ Below w.heap.size w wr) (fun t _ => 64 - (intOf t).toNat)
    case atStart => exact ⟨k, Bx, rfl, Nat.le_refl _, hk2, hl64, fun j h => rfl, fun j h h' => by omega, HR3, B3⟩
    case round =>
      clear HR3 B3 h1 h2 h3 h4
      try clear t1
      try clear t2
      try clear t3
      try clear t4
      obtain ⟨i, L, rfl, hki, hi, hL, hlow, hup, hrow, hbr⟩ := hrel
      by_cases hlt : i < 64
      · obtain ⟨k', rfl⟩ : ∃ k', k = k' + 1 := ⟨k - 1, by omega⟩
        have hci := hrow.out.cell i
        rw [bools_get L i (by omega)] at hci
        have hck := hrow.out.cell k'
        rw [bools_get L k' (by omega), hlow.out k' (by omega)] at hck
        have hfree := hrow.out.free i
        obtain ⟨b, hb⟩ : ∃ b, b = Bx.getD k' false := ⟨_, rfl⟩
        rw [← hb] at hck
        have hr2 := Lib.hid (Row.set hrow.out i (.bool b))
        rw [bools_set] at hr2
        have s1 : Hid (∀ j, j < k' + 1 → (L.set i b).getD j false = Bx.getD j false) := Lib.hid fun j hj => by
          rw [show (L.set i b).getD j false = L.getD j false by simp [List.getD_eq_getElem?_getD, List.getElem?_set_ne (show i ≠ j by omega)]]
          exact hlow.out j hj
        have s2 : Hid (∀ j, k' + 1 ≤ j → j < i + 1 → (L.set i b).getD j false = Bx.getD (k' + 1 - 1) false) := Lib.hid fun j hj hj2 => by
          by_cases e : j = i
          · subst e; rw [Nat.add_sub_cancel, ← hb]; simp [List.getD_eq_getElem?_getD, hL, hlt]
          · rw [show (L.set i b).getD j false = L.getD j false by simp [List.getD_eq_getElem?_getD, List.getElem?_set_ne (Ne.symm e)]]
            exact hup.out j hj (by omega)
        clear hb hlow hup
        have ek : ((k' + 1 : Nat) : Int) - 1 = (k' : Int) := by omega
        go_wp2_with fail
        go_roundw
        case rel => exact ⟨i + 1, L.set i b, by go_num, by omega, by omega, by simp [hL], s1, s2, hr2, hbr.setCell (p := ⟨G, i, none⟩) (by show w.heap.size ≤ G; omega) _⟩
        case measure => simp [intOf]; omega
      · obtain rfl : i = 64 := by omega
        have hLd := fill_done hk1 hk2 hL (by rw [← HBx.out]; exact hlow.out) (by rw [← HBx.out]; exact fun j h h' => hup.out j h h')
        have hval : Hid (IntKind.u64.wrap n = ((bv L : Nat) : Int)) := Lib.hid (by rw [HNW.out, hLd])
        have hsz2 : (Tryz.prog.info? 47).map (·.size) = some (bools L).size := by rw [bools_size, hL]; kernel_rfl
        obtain ⟨V, hV⟩ : ∃ V, V = bv L := ⟨_, rfl⟩
        have CW0 := fun W => ref_Word W L hL
        rw [← hV] at CW0 hval
        have CW := Lib.hid CW0
        have hval' := hval.out
        clear hLd hlow hup hV CW0
        go_wp2_with (refine wpList_load_row rfl 47 _ rfl G rfl 47 (bools L) (0, 0) _ hrow.out Tryz.underlying47 rfl hsz2 ?_)
        refine (CW.out _).mono ?_
        rintro e w9 ⟨rfl, hb9⟩
        go_wp2_with fail
        go_ret
        exact ⟨rfl, below_seq hbr hb9⟩
  · have CN := Lib.hid (fun wr => bits_Narrow_x x v wr h1 h2 (show v < 1 ∨ 64 < v by omega))
    rcases (show v < 1 ∨ (1 ≤ v ∧ 64 < v) by omega) with hv | ⟨hv, hv2⟩
    all_goals
      clear hw
      go_wp2_with fail
      refine (CN.out _).mono ?_
      rintro e w' ⟨rfl, rfl⟩
      go_wp2_with fail
      go_ret
      exact ⟨rfl, hb1⟩

set_option maxRecDepth 100000 in
set_option maxHeartbeats 8000000 in
theorem signed_px (w : World) (ht : Tab w) (x v : Int) (u : Nat) (h1 : -9223372036854775808 ≤ x) (h2 : x ≤ 9223372036854775807) (hu : u < 18446744073709551616) (h3 : -9223372036854775808 ≤ v) (h4 : v ≤ 9223372036854775807) (hc : 9223372036854775808 ≤ u) :
    Calls Tryz.prog 5 #[.int .i64 x, .int .u64 u, .bool false, .int .i64 v] w (Keeps (.bool true) w) := by
  have CBG := Lib.hid (law_begun w ht)
  obtain ⟨a, ha⟩ : ∃ a, a = x.natAbs := ⟨_, rfl⟩
  have CA0 := fun wr => bits_Abs x wr h1 h2
  rw [← ha] at CA0
  have CS1 : Hid (∀ wr, Calls Tryz.prog 22 #[.bool (decide (x < 0)), .int .u64 a] wr (Rets (.tuple #[.int .i64 x, .bool true]) wr)) := Lib.hid fun wr => by
    by_cases hx : x < 0
    · rw [decide_eq_true hx]
      have := bits_Signed_n a wr (by omega) (by omega)
      rwa [show -((a : Nat) : Int) = x by omega] at this
    · rw [decide_eq_false hx]
      have e : x = ((a : Nat) : Int) := by omega
      subst e
      exact bits_Signed_p a wr (by omega) (by omega)
  have CA := Lib.hid CA0
  have CS2 : Hid (∀ wr, Calls Tryz.prog 22 #[.bool false, .int .u64 u] wr (Rets (.tuple #[.int .i64 0, .bool false]) wr)) := Lib.hid fun wr => bits_Signed_x false u wr hu (by omega) (fun h => by first | omega | cases h)
  have t1 : decide ((u : Int) ≤ 9223372036854775807) = false := by first | exact decide_eq_true (by omega) | exact decide_eq_false (by omega)
  have t2 : True := trivial
  clear CA0 ha hu hc ht
  go_enter Tryz.func5, Tryz.ntmps5
  go_wp2_with fail
  refine CBG.out.mono ?_
  rintro e w1 ⟨rfl, hb1⟩
  go_wp2_with fail
  refine (CA.out _).mono ?_
  rintro e w' ⟨rfl, rfl⟩
  go_wp2_with fail
  refine (CS1.out _).mono ?_
  rintro e w' ⟨rfl, rfl⟩
  go_wp2_with fail
  refine (CS2.out _).mono ?_
  rintro e w' ⟨rfl, rfl⟩
  go_wp2_with fail
  clear CBG CA CS1 CS2
  by_cases hw : 1 ≤ v ∧ v ≤ 64
  · obtain ⟨hw1, hw2⟩ := hw
    obtain ⟨k, rfl⟩ : ∃ k : Nat, v = (k : Int) := ⟨v.toNat, by omega⟩
    have hk1 : 1 ≤ k := by omega
    have hk2 : k ≤ 64 := by omega
    have CN0 := fun wr => bits_Narrow x k wr h1 h2 hk1 hk2
    unfold narrowI at CN0
    rw [narrow_bmod x k hk1 hk2] at CN0
    obtain ⟨n, hn⟩ : ∃ n, n = x.bmod (2 ^ k) := ⟨_, rfl⟩
    rw [← hn] at CN0
    have CN := Lib.hid CN0
    obtain ⟨X, hX⟩ : ∃ X, X = (x % 18446744073709551616).toNat := ⟨_, rfl⟩
    have hXb : X < 18446744073709551616 := by omega
    have eX : IntKind.u64.wrap x = (X : Int) := by rw [IntKind.wrap_u64, hX]; omega
    have hnw := narrow_word (x := x) (k := k) (X := X) hk1 hk2 hX
    rw [← hn] at hnw
    have HNW := Lib.hid hnw
    have CB := Lib.hid (fun wr => ref_Bits wr X hXb)
    have hl64 : (bitsOf X).length = 64 := by simp [bitsOf]
    obtain ⟨Bx, hBx⟩ : ∃ Bx, Bx = bitsOf X := ⟨_, rfl⟩
    rw [← hBx] at hl64 CB
    have HBx := Lib.hid hBx
    have hsz : (Tryz.prog.info? 47).map (·.size) = some (bools Bx).size := by rw [bools_size, hl64]; kernel_rfl
    have hbe : (n == x) = (n == x) := rfl
    obtain ⟨bb, hbb⟩ : ∃ bb, bb = (n == x) := ⟨_, rfl⟩
    rw [← hbb] at CN
    have hbb2 := hbb.symm
    clear CN0 hn hX hXb hnw hBx hbe hbb
    go_wp2_with fail
    refine (CN.out _).mono ?_
    rintro e w' ⟨rfl, rfl⟩
    go_wp2_with fail
    refine (CB.out _).mono ?_
    rintro e w2 ⟨rfl, hb2⟩
    go_wp2_with (refine wpList_store_row rfl 47 _ _ rfl w2.heap.size (bools Bx) rfl rfl 47 _ (heap_alloc_new _ _) hsz (by rw [bools_size, hl64]; rfl) (bools_one Bx) ?_)
    obtain ⟨w3, hw3⟩ : ∃ w3, w3 = (w2.alloc (.cells (bools (List.replicate 64 false)) 47)).setRow w2.heap.size (bools Bx) := ⟨_, rfl⟩
    have hr3 : Row w3 w2.heap.size 47 (bools Bx) := by
      rw [hw3]; exact setRow_heap _ _ _ _ _ _ (heap_alloc_new _ _)
    have hb3 : Below w2.heap.size w2 w3 := by
      rw [hw3]; exact ((Below.refl _ _).alloc (Nat.le_refl _) _).trans ((setRow_only _ _ _).below (Nat.le_refl _))
    have B3 : Below w.heap.size w w3 := below_seq hb1 (below_seq hb2 hb3)
    have hw1' : w.heap.size ≤ w2.heap.size := Nat.le_trans hb1.size hb2.size
    rw [bools_64] at hw3
    rw [← hw3]
    have HR3 := Lib.hid hr3
    clear hw3 hr3 hb3 hb2 hb1 hsz CB CN
    obtain ⟨G, hG⟩ : ∃ G, G = w2.heap.size := ⟨_, rfl⟩
    rw [← hG] at HR3 hw1' ⊢
    clear hG
    go_loopw [19] (fun t wr => ∃ (i : Nat) (L : List Bool), t = .int .i64 i ∧ k ≤ i ∧ i ≤ 64 ∧ L.length = 64 ∧ Hid (∀ j, j < k → L.getD j false = Bx.getD j false) ∧ Hid (∀ j, k ≤ j → j < i → L.getD j false = Bx.getD (k - 1) false) ∧ Hid (Row wr G 47 (bools L)) ∧ Below w.heap.size w wr) (fun t _ => 64 - (intOf t).toNat)
    case atStart => exact ⟨k, Bx, rfl, Nat.le_refl _, hk2, hl64, fun j h => rfl, fun j h h' => by omega, HR3, B3⟩
    case round =>
      clear HR3 B3 h1 h2 h3 h4
      try clear t1
      try clear t2
      try clear t3
      try clear t4
      obtain ⟨i, L, rfl, hki, hi, hL, hlow, hup, hrow, hbr⟩ := hrel
      by_cases hlt : i < 64
      · obtain ⟨k', rfl⟩ : ∃ k', k = k' + 1 := ⟨k - 1, by omega⟩
        have hci := hrow.out.cell i
        rw [bools_get L i (by omega)] at hci
        have hck := hrow.out.cell k'
        rw [bools_get L k' (by omega), hlow.out k' (by omega)] at hck
        have hfree := hrow.out.free i
        obtain ⟨b, hb⟩ : ∃ b, b = Bx.getD k' false := ⟨_, rfl⟩
        rw [← hb] at hck
        have hr2 := Lib.hid (Row.set hrow.out i (.bool b))
        rw [bools_set] at hr2
        have s1 : Hid (∀ j, j < k' + 1 → (L.set i b).getD j false = Bx.getD j false) := Lib.hid fun j hj => by
          rw [show (L.set i b).getD j false = L.getD j false by simp [List.getD_eq_getElem?_getD, List.getElem?_set_ne (show i ≠ j by omega)]]
          exact hlow.out j hj
        have s2 : Hid (∀ j, k' + 1 ≤ j → j < i + 1 → (L.set i b).getD j false = Bx.getD (k' + 1 - 1) false) := Lib.hid fun j hj hj2 => by
          by_cases e : j = i
          · subst e; rw [Nat.add_sub_cancel, ← hb]; simp [List.getD_eq_getElem?_getD, hL, hlt]
          · rw [show (L.set i b).getD j false = L.getD j false by simp [List.getD_eq_getElem?_getD, List.getElem?_set_ne (Ne.symm e)]]
            exact hup.out j hj (by omega)
        clear hb hlow hup
        have ek : ((k' + 1 : Nat) : Int) - 1 = (k' : Int) := by omega
        go_wp2_with fail
        go_roundw
        case rel => exact ⟨i + 1, L.set i b, by go_num, by omega, by omega, by simp [hL], s1, s2, hr2, hbr.setCell (p := ⟨G, i, none⟩) (by show w.heap.size ≤ G; omega) _⟩
        case measure => simp [intOf]; omega
      · obtain rfl : i = 64 := by omega
        have hLd := fill_done hk1 hk2 hL (by rw [← HBx.out]; exact hlow.out) (by rw [← HBx.out]; exact fun j h h' => hup.out j h h')
        have hval : Hid (IntKind.u64.wrap n = ((bv L : Nat) : Int)) := Lib.hid (by rw [HNW.out, hLd])
        have hsz2 : (Tryz.prog.info? 47).map (·.size) = some (bools L).size := by rw [bools_size, hL]; kernel_rfl
        obtain ⟨V, hV⟩ : ∃ V, V = bv L := ⟨_, rfl⟩
        have CW0 := fun W => ref_Word W L hL
        rw [← hV] at CW0 hval
        have CW := Lib.hid CW0
        have hval' := hval.out
        clear hLd hlow hup hV CW0
        go_wp2_with (refine wpList_load_row rfl 47 _ rfl G rfl 47 (bools L) (0, 0) _ hrow.out Tryz.underlying47 rfl hsz2 ?_)
        refine (CW.out _).mono ?_
        rintro e w9 ⟨rfl, hb9⟩
        go_wp2_with fail
        go_ret
        exact ⟨rfl, below_seq hbr hb9⟩
  · have CN := Lib.hid (fun wr => bits_Narrow_x x v wr h1 h2 (show v < 1 ∨ 64 < v by omega))
    rcases (show v < 1 ∨ (1 ≤ v ∧ 64 < v) by omega) with hv | ⟨hv, hv2⟩
    all_goals
      clear hw
      go_wp2_with fail
      refine (CN.out _).mono ?_
      rintro e w' ⟨rfl, rfl⟩
      go_wp2_with fail
      go_ret
      exact ⟨rfl, hb1⟩

theorem law_BitsSigned (w : World) (ht : Tab w) (x : Int) (u : Nat) (neg : Bool) (v : Int) (h1 : -9223372036854775808 ≤ x) (h2 : x ≤ 9223372036854775807) (hu : u < 18446744073709551616) (h3 : -9223372036854775808 ≤ v) (h4 : v ≤ 9223372036854775807) :
    Calls Tryz.prog 5 #[.int .i64 x, .int .u64 u, .bool neg, .int .i64 v] w (Keeps (.bool true) w) := by
  cases neg
  · rcases (show u = 0 ∨ (0 < u ∧ u ≤ 9223372036854775807) ∨ 9223372036854775808 ≤ u by omega) with h | h | h
    · exact signed_p0 w ht x v u h1 h2 hu h3 h4 h
    · exact signed_p1 w ht x v u h1 h2 hu h3 h4 h
    · exact signed_px w ht x v u h1 h2 hu h3 h4 h
  · rcases (show u = 0 ∨ (0 < u ∧ u ≤ 9223372036854775807) ∨ u = 9223372036854775808 ∨ 9223372036854775808 < u by omega) with h | h | h | h
    · exact signed_n0 w ht x v u h1 h2 hu h3 h4 h
    · exact signed_n1 w ht x v u h1 h2 hu h3 h4 h
    · exact signed_n2 w ht x v u h1 h2 hu h3 h4 h
    · exact signed_nx w ht x v u h1 h2 hu h3 h4 h
end Go.Proofs.YtohjljbhfopffaaGreatDoor
