/- Package mat: of no matrix Rank and Inverse; rows of two lengths are no matrix. -/
import Derived.Test.YtohjljbhfopffaaGreatDoorJWalkH
import Derived.Test.YtohjljbhfopffaaGreatDoorJWalkG
import Derived.Deep.RegionWith
set_option linter.unusedVariables false
set_option linter.unusedSimpArgs false
namespace Go.Proofs.YtohjljbhfopffaaGreatDoor
open Go.RowKit Vic

set_option maxRecDepth 100000 in
set_option maxHeartbeats 2000000 in
theorem mat_copied_nil (w : World) (f : Nat) (lb : Array Value) : Calls Tryz.prog 93 #[.pointer none, .func (.func f) #[] lb] w (Rets (.slice none 0 0) w) := by
  have CS := Lib.hid (mat_Size_nil w)
  go_enter Tryz.func93, Tryz.ntmps93
  go_wp2_with fail
  refine CS.out.mono ?_
  rintro e w' ⟨rfl, rfl⟩
  go_wp2_with fail
  go_loopw [15, 5] (fun t s wr => t = .int .i64 0 ∧ s = .slice none 0 0 ∧ wr = w) (fun t _ _ => 0)
  case atStart => exact ⟨rfl, rfl, rfl⟩
  case round =>
    obtain ⟨rfl, rfl, rfl⟩ := hrel
    go_wp2_with fail
    go_ret
    exact ⟨rfl, rfl⟩
set_option maxRecDepth 100000 in
set_option maxHeartbeats 2000000 in
theorem mat_reduced_nil (w : World) : Calls Tryz.prog 95 #[.slice none 0 0, .int .i64 0] w (Keeps (.int .i64 0) w) := by
  go_enter Tryz.func95, Tryz.ntmps95
  go_wp2_with fail
  have h0 : Below w.heap.size w (w.alloc (.cells #[.int .i64 0] 3)) := (Below.refl _ _).alloc (Nat.le_refl _) _
  have h1 : (w.alloc (.cells #[.int .i64 0] 3)).cell? ⟨w.heap.size, 0, none⟩ = some (.int .i64 0) := (Row.new _ _ _).cell 0
  go_loopw [5, 6] (fun s t wr => s = .int .i64 0 ∧ t = .pointer (some ⟨w.heap.size, 0, none⟩) ∧ wr.cell? ⟨w.heap.size, 0, none⟩ = some (.int .i64 0) ∧ Below w.heap.size w wr) (fun _ _ _ => 0)
  case atStart => exact ⟨rfl, rfl, h1, h0⟩
  case round =>
    obtain ⟨rfl, rfl, hc, hb⟩ := hrel
    clear h0 h1
    go_wp2_with fail
    go_ret
    exact ⟨rfl, hb⟩
set_option maxRecDepth 100000 in
set_option maxHeartbeats 2000000 in
theorem mat_Rank_nil (w : World) : Calls Tryz.prog 47 #[.pointer none] w (Keeps (.int .i64 0) w) := by
  have CS := Lib.hid (mat_Size_nil w)
  have CC : Hid (∀ wr, Calls Tryz.prog 93 #[.pointer none, .func (.func 106) #[] #[]] wr (Rets (.slice none 0 0) wr)) := Lib.hid fun wr => mat_copied_nil wr _ _
  have CR := Lib.hid (fun wr => mat_reduced_nil wr)
  go_enter Tryz.func47, Tryz.ntmps47
  go_wp2_with fail
  refine CS.out.mono ?_
  rintro e w' ⟨rfl, rfl⟩
  go_wp2_with fail
  refine (CC.out _).mono ?_
  rintro e w' ⟨rfl, rfl⟩
  go_wp2_with fail
  refine (CR.out _).mono ?_
  rintro e w1 ⟨rfl, hb1⟩
  go_wp2_with fail
  go_ret
  exact ⟨rfl, hb1⟩
set_option maxRecDepth 100000 in
set_option maxHeartbeats 2000000 in
theorem mat_Inverse_nil (w : World) : Calls Tryz.prog 35 #[.pointer none] w (fun e w' => ∃ b, e = .returned (.tuple #[.pointer (some ⟨b, 0, none⟩), .bool true]) ∧ Below w.heap.size w w') := by
  have CS := Lib.hid (mat_Size_nil w)
  have CC := Lib.hid (fun wr f lb => mat_copied_nil wr f lb)
  have CR := Lib.hid (fun wr => mat_reduced_nil wr)
  go_enter Tryz.func35, Tryz.ntmps35
  go_wp2_with fail
  refine CS.out.mono ?_
  rintro e w' ⟨rfl, rfl⟩
  go_wp2_with fail
  refine (CC.out _ _ _).mono ?_
  rintro e w' ⟨rfl, rfl⟩
  have h0 : Below w.heap.size w (w.alloc (.cells #[.int .i64 0] 3)) := (Below.refl _ _).alloc (Nat.le_refl _) _
  have h1 : (w.alloc (.cells #[.int .i64 0] 3)).cell? ⟨w.heap.size, 0, none⟩ = some (.int .i64 0) := (Row.new _ _ _).cell 0
  have HK : Hid (∀ W, Below (w.alloc (.cells #[.int .i64 0] 3)).drew.heap.size (w.alloc (.cells #[.int .i64 0] 3)).drew W → W.cell? ⟨w.heap.size, 0, none⟩ = some (.int .i64 0) ∧ Below w.heap.size w W) := Lib.hid fun W h => by
    have hd : Below (w.alloc (.cells #[.int .i64 0] 3)).heap.size (w.alloc (.cells #[.int .i64 0] 3)) (w.alloc (.cells #[.int .i64 0] 3)).drew := Below.drewN_ (Below.refl _ _) 1
    have h2 := below_seq hd h
    exact ⟨cell_keep h1 h2, below_seq h0 h2⟩
  clear h0
  go_wp2_with fail
  go_region_with (go_at_call 95; refine (CR.out _).mono ?_; rintro e w5 ⟨rfl, hb5⟩; have hk5 := HK.out _ hb5; obtain ⟨hc5, hB5⟩ := hk5)
  all_goals
    go_wp2_with fail
    clear HK CC CR CS
    go_loopw [31] (fun t wr => t = .int .i64 0 ∧ Below w.heap.size w wr) (fun _ _ => 0)
    case atStart => exact ⟨rfl, hB5.alloc hB5.size _⟩
    case round =>
      obtain ⟨rfl, hbr⟩ := hrel
      go_wp2_with fail
      go_ret2
      exact ⟨_, rfl, hbr⟩
set_option maxRecDepth 100000 in
set_option maxHeartbeats 8000000 in
theorem mat_New_ragged (w : World) (sb t0 t1 : Nat) (x : List UInt8) (h0 : w.cell? ⟨sb, 0, none⟩ = some (.slice (some ⟨t0, 0, none⟩) 1 1)) (h1 : w.cell? ⟨sb, 1, none⟩ = some (.slice (some ⟨t1, 0, none⟩) 2 2))
    (h2 : w.cell? ⟨t0, 0, none⟩ = some (.string ⟨x.toArray⟩)) (hg : FracGood x) (hl : x.length ≤ 1000000) (ht : Tab w) :
    Calls Tryz.prog 36 #[.slice (some ⟨sb, 0, none⟩) 2 2] w (GivesNo w) := by
  have H0 := Lib.hid h0; have H1 := Lib.hid h1; have H2 := Lib.hid h2; have HGD := Lib.hid hg; have HT := Lib.hid ht
  obtain ⟨i1, hi1, hz1, hsz1, hby1⟩ := info_pf
  obtain ⟨i2, hi2, hz2, hsz2, hby2⟩ := info_lpf
  clear h0 h1 h2 hg ht
  go_enter Tryz.func36, Tryz.ntmps36
  go_wp2_with fail
  have hb0 : Below w.heap.size w (w.alloc (.cells #[.slice none 0 0, .int .i64 0] 129)) := (Below.refl _ _).alloc (Nat.le_refl _) _
  go_loopw [19] (fun t wr => ∃ (k : Nat) (sv : Value) (y : Int), t = .int .i64 k ∧ k ≤ 1 ∧ (k = 0 → sv = .slice none 0 0) ∧ (k = 1 → y = 1) ∧ Hid (Row wr w.heap.size 129 #[sv, .int .i64 y]) ∧ w.heap.size + 1 ≤ wr.heap.size ∧ Below w.heap.size w wr) (fun t _ => 2 - (intOf t).toNat)
  case atStart =>
    refine ⟨0, _, _, rfl, by omega, fun _ => rfl, fun h => by omega, Row.new _ _ _, ?_, hb0⟩
    simp
  case round =>
    obtain ⟨k, sv, y, rfl, hk, hsv, hy, hrow, hBw, hbr⟩ := hrel
    have hm0 : wr.cell? ⟨w.heap.size, 0, none⟩ = some sv := hrow.out.cell 0
    have hm1 : wr.cell? ⟨w.heap.size, 1, none⟩ = some (.int .i64 y) := hrow.out.cell 1
    have hfr := hrow.out.free 1
    rcases (show k = 0 ∨ k = 1 by omega) with rfl | rfl
    · try rw [show ((0 : Nat) : Int) = 0 from rfl]
      obtain rfl := hsv rfl
      have ho' := cell_keep H0.out hbr
      obtain ⟨W, hW⟩ : ∃ W, W = wr.setCell ⟨w.heap.size, 1, none⟩ (.int .i64 1) := ⟨_, rfl⟩
      have hRW : Row W w.heap.size 129 #[.slice none 0 0, .int .i64 1] := by rw [hW]; exact hrow.out.set 1 (.int .i64 1)
      have hbW : Below w.heap.size w W := by rw [hW]; exact hbr.setCell (p := ⟨w.heap.size, 1, none⟩) (Nat.le_refl _) _
      have hBW : w.heap.size + 1 ≤ W.heap.size := by rw [hW]; simpa [World.setCell] using hBw
      have HRW := Lib.hid hRW; have HW := Lib.hid hW
      clear hsv hy hrow hRW hW
      go_wp2_with fail
      rw [← HW.out]
      clear hm0 hm1 hfr HW hBw hbr ho'
      go_loopw [45, 7] (fun t s wi => ∃ (j : Nat) (ps : List (Option Addr)), t = .int .i64 j ∧ j ≤ 1 ∧ ps.length = j ∧ Hid (OwnK ptrKind wi W.heap.size 24 1 s j (ps.map Value.pointer)) ∧ Below W.heap.size W wi) (fun t _ _ => 1 - (intOf t).toNat)
      case atStart => exact ⟨0, [], rfl, Nat.zero_le _, rfl, OwnK.nil_ _ _ _ _ _, Below.refl _ _⟩
      case round =>
        obtain ⟨j, ps, rfl, hj, hpl, hown, hbi⟩ := hrel
        have hB2 : Below w.heap.size w wr := hbW.trans (hbi.mono hbW.size)
        rcases (show j = 0 ∨ j = 1 by omega) with rfl | rfl
        · try rw [show ((0 : Nat) : Int) = 0 from rfl]
          have hcx := cell_keep H2.out hB2
          have CF : Hid (Calls Tryz.prog 13 #[.string ⟨x.toArray⟩] wr (fun e w' => ∃ z, e = .returned (.tuple #[z, .bool true]) ∧ FracPtr w' z (fracOf x) ∧ Below wr.heap.size wr w')) := by
            refine (frac_Get wr x hl (HT.out.keep hB2)).mono ?_
            rintro e w' (⟨h, _⟩ | ⟨_, z, rfl, hz, _, hb⟩)
            · exact absurd HGD.out h
            · exact ⟨z, rfl, hz, hb⟩
          go_wp2_with fail
          refine CF.out.mono ?_
          rintro e w4 ⟨z, rfl, hz4, hb4⟩
          obtain ⟨z0, rfl⟩ := hz4.ptr
          have hal : Below w4.heap.size w4 (w4.alloc (.cells #[.pointer z0] 24)) := (Below.refl _ _).alloc (Nat.le_refl _) _
          have hB5 : Below wr.heap.size wr (w4.alloc (.cells #[.pointer z0] 24)) := hb4.alloc hb4.size _
          have hown5 := Lib.hid (hown.out.keep hB5)
          have hnew5 : Hid (∀ (j : Nat) u, [Value.pointer z0][j]? = some u → (w4.alloc (.cells #[.pointer z0] 24)).cell? ((⟨w4.heap.size, 0, none⟩ : Addr).add j) = some u) := Lib.hid fun j u hj => by
            rcases j with _ | j
            · cases hj
              exact (Row.new _ _ _).cell 0
            · simp at hj
          have hk5 : W.heap.size ≤ (w4.alloc (.cells #[.pointer z0] 24)).heap.size := Nat.le_trans hbi.size hB5.size
          clear hz4
          go_wp2_with (at_builtin; refine wpList_append_ownK (Kd := ptrKind) rfl (.tmp 56) (.tmp 58) 85 rfl W.heap.size 24 i1 _ 1 Tryz.underlying85 hi1 hz1 hsz1 rfl (by omega) _ 0 _ rfl hown5.out ⟨w4.heap.size, 0, none⟩ 1 1 [Value.pointer z0] rfl (by simp) hnew5.out (by simp [Value.oneCell']) (by simp [ptrKind]) (by simp [ptrKind, Value.cells]) (by omega) (by unfold maxLen; omega) (by rw [hby1]; omega) hk5 ?_; intro v6 w6 hown6 hgr6 hloc6)
          have hB6 : Below W.heap.size W w6 := hown.out.below hbi hB5 hgr6 hbi.size
          have HO6 : Hid (OwnK ptrKind w6 W.heap.size 24 1 v6 (0 + 1) ((ps ++ [z0]).map Value.pointer)) := by
            rw [List.map_append]
            exact hown6
          have HPL : (ps ++ [z0]).length = 0 + 1 := by rw [List.length_append, hpl]; rfl
          clear hown6
          go_wp2_with fail
          go_roundw
          case rel => exact ⟨1, ps ++ [z0], by go_num, by omega, HPL, HO6, hB6⟩
          case measure => simp [intOf]
        · try rw [show ((1 : Nat) : Int) = 1 from rfl]
          have hrW := HRW.out
          have hm0 : wr.cell? ⟨w.heap.size, 0, none⟩ = some (.slice none 0 0) := cell_keep (hrW.cell 0) hbi
          obtain ⟨g3, cap3, cur3, rfl, hg3, hrow3, hc3, hk3, hval3⟩ := hown.out.rowOf (by omega) hpl
          obtain ⟨cl, hcl⟩ : ∃ cl : World, cl = wr.alloc (.cells #[.slice (some ⟨g3, 0, none⟩) 1 cap3] 85) := ⟨_, rfl⟩
          have hal : Below wr.heap.size wr cl := by rw [hcl]; exact (Below.refl _ _).alloc (Nat.le_refl _) _
          have h04 : Below W.heap.size W cl := hbi.trans (hal.mono hbi.size)
          have hown4 : Hid (OwnK sliceKind cl (w.heap.size + 1) 85 1 (.slice none 0 0) 0 []) := OwnK.nil_ _ _ _ _ _
          have hnew4 : Hid (∀ (j : Nat) u, [Value.slice (some ⟨g3, 0, none⟩) 1 cap3][j]? = some u → cl.cell? ((⟨wr.heap.size, 0, none⟩ : Addr).add j) = some u) := Lib.hid fun j u hj => by
            rcases j with _ | j
            · cases hj
              rw [hcl]
              exact (Row.new _ _ _).cell 0
            · simp at hj
          have hk4 : w.heap.size + 1 ≤ cl.heap.size := Nat.le_trans hBW h04.size
          have HCL := Lib.hid hcl
          have hfr4 : cl.frozen? ⟨w.heap.size, 0, none⟩ = false := (hrW.keep h04).free 0
          have hm4 : cl.cell? ⟨w.heap.size, 0, none⟩ = some (.slice none 0 0) := cell_keep hm0 hal
          have HRO := Lib.hid hrW
          clear hval3 hrow3 hk3 hrW hcl
          go_wp2_with (at_builtin; rw [← HCL.out]; refine wpList_append_ownK (Kd := sliceKind) rfl (.tmp 65) (.tmp 67) 127 rfl (w.heap.size + 1) 85 i2 _ 1 Tryz.underlying127 hi2 hz2 hsz2 rfl (by omega) _ 0 _ rfl hown4.out ⟨wr.heap.size, 0, none⟩ 1 1 [Value.slice (some ⟨g3, 0, none⟩) 1 cap3] rfl (by simp) hnew4.out (by simp [Value.oneCell']) (by simp [sliceKind]) (by simp [sliceKind, Value.cells]) (by omega) (by unfold maxLen; omega) (by rw [hby2]; omega) hk4 ?_; intro v5 w5 hown5 hgr5 hloc5; refine Hid.out ?_)
          obtain ⟨g5, cap5, rfl⟩ := hown5.shape (by omega)
          have hr5 : Row w5 w.heap.size 129 #[.slice none 0 0, .int .i64 1] := (hgr5.block _ (HRO.out.keep h04).lt (fun e => by cases e)).trans (HRO.out.keep h04)
          have hfr5 := hr5.free 0
          have hm5 : w5.cell? ⟨w.heap.size, 0, none⟩ = some (.slice none 0 0) := hr5.cell 0
          have HR6 := Lib.hid (hr5.set 0 (.slice (some ⟨g5, 0, none⟩) (0 + 1) cap5))
          have hBcl := hbW.trans (h04.mono hbW.size)
          have hB5 : Below w.heap.size w w5 := OwnK.below (Kd := sliceKind) (e := 85) (size := 1) (v := .slice none 0 0) (n := 0) (xs := []) (OwnK.nil_ _ _ _ _ _) hBcl (Below.refl _ _) hgr5 hBcl.size
          have hB6 : Below w.heap.size w (w5.setCell ⟨w.heap.size, 0, none⟩ (.slice (some ⟨g5, 0, none⟩) (0 + 1) cap5)) := hB5.setCell (p := ⟨w.heap.size, 0, none⟩) (Nat.le_refl _) _
          have hs5 := hgr5.size
          clear hr5 hown5
          refine Lib.hid ?_
          go_wp2_with fail
          go_roundw
          case rel => exact ⟨1, _, 1, by go_num, by omega, fun h => by omega, fun _ => rfl, HR6, by simp [World.setCell]; omega, hB6⟩
          case measure => simp [intOf]
    · try rw [show ((1 : Nat) : Int) = 1 from rfl]
      obtain rfl := hy rfl
      have ho' := cell_keep H1.out hbr
      clear hsv hy hrow
      go_wp2_with fail
      go_ret2
      exact ⟨rfl, hbr⟩
end Go.Proofs.YtohjljbhfopffaaGreatDoor
