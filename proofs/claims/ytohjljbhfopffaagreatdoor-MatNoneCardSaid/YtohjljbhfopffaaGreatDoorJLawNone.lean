/- The law MatNone: of nothing. -/
import Derived.Test.YtohjljbhfopffaaGreatDoorJWalkH
import Derived.Test.YtohjljbhfopffaaGreatDoorJMatR
import Derived.Test.YtohjljbhfopffaaGreatDoorJLitN
import Derived.Test.YtohjljbhfopffaaGreatDoorJWalkF
import Derived.Test.YtohjljbhfopffaaGreatDoorJWalkC
set_option linter.unusedVariables false
set_option linter.unusedSimpArgs false
namespace Go.Proofs.YtohjljbhfopffaaGreatDoor
open Go.RowKit Vic

set_option maxRecDepth 100000 in
set_option maxHeartbeats 8000000 in
theorem law_MatNone (w : World) (ht : Tab w) : Calls Tryz.prog 9 #[] w (Keeps (.bool true) w) := by
  have HT := Lib.hid ht
  have CB : Hid (∀ wr, Below w.heap.size w wr → Calls Tryz.prog 11 #[] wr (Keeps (.bool true) wr)) := Lib.hid fun wr h => law_begun wr (ht.keep h)
  have nz : ∀ W, NatAt W (.pointer none) 0 := fun W => .inl ⟨rfl, rfl⟩
  have fz : ∀ W, FracAt W (.pointer none) 0 := fun W => .inl ⟨rfl, rfl⟩
  have d0 : (dgs 0).length ≤ 10 := by rw [show dgs 0 = [] from digs_zero _]; simp
  have hf0 : Fits 2 (0 : Rat) := fits_of (n := 0) (by omega) (by omega)
  have hf2 : Fits 2 (2 : Rat) := fits_of (n := 2) (by omega) (by omega)
  have CS := Lib.hid (fun wr => mat_Size_nil wr)
  have CI := Lib.hid (fun wr => mat_Inverse_nil wr)
  have CR := Lib.hid (fun wr => mat_Rank_nil wr)
  have CO1 : Hid (∀ wr, Calls Tryz.prog 38 #[.int .u64 1] wr (Gives (fun v w' => NatPtr w' v 1) wr)) := Lib.hid fun wr => nat_Ofp wr 1 (by omega)
  have CO6 : Hid (∀ wr, Calls Tryz.prog 38 #[.int .u64 6] wr (Gives (fun v w' => NatPtr w' v 6) wr)) := Lib.hid fun wr => nat_Ofp wr 6 (by omega)
  have CFN : Hid (∀ wr v, Calls Tryz.prog 37 #[.bool false, v, .pointer none] wr (Rets (.tuple #[.pointer none, .bool false]) wr)) := Lib.hid fun wr v => frac_New_no wr false v _ (nz _)
  have CL : Hid (∀ wr, Below w.heap.size w wr → Calls Tryz.prog 27 #[.string ⟨#[]⟩] wr (GivesNo wr)) := Lib.hid fun wr h => lit_Get_empty wr (ht.keep h)
  have CV : Hid (∀ wr, Below w.heap.size w wr → Calls Tryz.prog 39 #[.slice none 0 0] wr (fun e w' => ∃ v, e = .returned (.tuple #[v, .bool true]) ∧ VecPtr w' v [] ∧ Below wr.heap.size wr w')) := Lib.hid fun wr h => by
    refine (vec_New wr _ [] ⟨none, 0, rfl, by simp, fun i x hx => by simp at hx⟩ (by simp) (fun x hx => by cases hx) (ht.keep h)).mono ?_
    rintro e w' (⟨h, _⟩ | ⟨_, v, ps, rfl, hv, hp, _, _, hb⟩)
    · exact absurd ⟨fun x hx => (by cases hx), by simp⟩ h
    · obtain rfl : ps = [] := List.Perm.eq_nil hp
      exact ⟨v, rfl, hv, hb⟩
  have CNT : Hid (∀ wr, Below w.heap.size w wr → Calls Tryz.prog 20 #[.pointer none] wr (Keeps (.string ⟨#[48]⟩) wr)) := Lib.hid fun wr h => by
    have := nat_Text wr _ 0 (nz wr) (by omega) (ht.keep h)
    rwa [dec_small (u := 0) (by omega)] at this
  have CNT6 : Hid (∀ wr v, Below w.heap.size w wr → NatAt wr v 6 → Calls Tryz.prog 20 #[v] wr (Keeps (.string ⟨#[54]⟩) wr)) := Lib.hid fun wr v h hv => by
    have := nat_Text wr _ 6 hv (Nat.le_trans (sz_word (by omega)) (by omega)) (ht.keep h)
    rwa [dec_small (u := 6) (by omega)] at this
  have CNB : Hid (∀ wr, Calls Tryz.prog 40 #[.pointer none] wr (Rets (.int .i64 0) wr)) := Lib.hid fun wr => by
    have := nat_Bits wr _ 0 (nz wr) (by omega)
    rwa [blen_zero] at this
  have CNW : Hid (∀ wr, Calls Tryz.prog 41 #[.pointer none] wr (Rets (.int .i64 0) wr)) := Lib.hid fun wr => by
    have := nat_Twos wr _ 0 (nz wr) (by omega)
    rwa [tz_zero] at this
  have CNG : Hid (∀ wr v, NatPtr wr v 6 → Calls Tryz.prog 42 #[.pointer none, v] wr (Gives (fun x w' => NatAt w' x 6) wr)) := Lib.hid fun wr v hv => by
    have := nat_Gcd wr _ v 0 6 (nz wr) hv.at_ (by omega) (Nat.le_trans (sz_word (by omega)) (by omega))
    rwa [show Nat.gcd 0 6 = 6 from rfl] at this
  have t0 : fracText 0 = [48] := by decide +kernel
  have t2 : fracText 2 = [50] := by decide +kernel
  have CFT : Hid (∀ wr v, Below w.heap.size w wr → FracAt wr v 0 → Calls Tryz.prog 15 #[v] wr (Keeps (.string ⟨#[48]⟩) wr)) := Lib.hid fun wr v h hv => by
    have := frac_Text wr v 0 hv (hf0.mono (by omega)) (ht.keep h)
    rwa [t0] at this
  have CFT2 : Hid (∀ wr v, Below w.heap.size w wr → FracAt wr v 2 → Calls Tryz.prog 15 #[v] wr (Keeps (.string ⟨#[50]⟩) wr)) := Lib.hid fun wr v h hv => by
    have := frac_Text wr v 2 hv (hf2.mono (by omega)) (ht.keep h)
    rwa [t2] at this
  have CFS : Hid (∀ wr, Calls Tryz.prog 43 #[.pointer none] wr (Keeps (.int .i64 0) wr)) := Lib.hid fun wr => by
    have := frac_Sign wr _ 0 (fz wr) (hf0.mono (by omega))
    rwa [show signI 0 = 0 by decide] at this
  have CFO : Hid (∀ wr, Calls Tryz.prog 17 #[.int .i64 2] wr (Gives (fun v w' => FracPtr w' v 2) wr)) := Lib.hid fun wr => frac_Of wr 2 (by omega) (by omega)
  have CFA : Hid (∀ wr v, FracPtr wr v 2 → Calls Tryz.prog 44 #[.pointer none, v] wr (Gives (fun x w' => FracPtr w' x 2) wr)) := Lib.hid fun wr v hv => by
    have := frac_Add wr _ v 0 2 (fz wr) hv.at_ (hf0.mono (by omega)) (hf2.mono (by omega))
    rwa [Rat.zero_add] at this
  have CVL : Hid (∀ wr, Calls Tryz.prog 45 #[.pointer none] wr (Rets (.int .i64 0) wr)) := Lib.hid fun wr => vec_Len wr _ [] (.inl ⟨rfl, rfl⟩)
  have CVL2 : Hid (∀ wr v, VecPtr wr v [] → Calls Tryz.prog 45 #[v] wr (Rets (.int .i64 0) wr)) := Lib.hid fun wr v hv => vec_Len wr v [] (.inr hv)
  have CVA : Hid (∀ wr, Calls Tryz.prog 46 #[.pointer none, .int .i64 3] wr (Gives (fun x w' => FracPtr w' x 0) wr)) := Lib.hid fun wr => vec_At wr _ [] (.inl ⟨rfl, rfl⟩) (by simp) 3
  clear ht nz fz d0 hf0 hf2 t0 t2
  go_enter Tryz.func9, Tryz.ntmps9
  go_wp2_with fail
  refine (CS.out _).mono ?_
  rintro e w' ⟨rfl, rfl⟩
  go_wp2_with fail
  refine (CI.out _).mono ?_
  rintro e w6 ⟨mb, rfl, hb6⟩
  obtain ⟨w7, hw7⟩ : ∃ w7, w7 = ((w6.alloc (.cells #[.string ⟨#[49]⟩] 9)).alloc (.cells #[.string ⟨#[49]⟩, .string ⟨#[50]⟩] 9)).alloc (.cells #[.slice (some ⟨w6.heap.size, 0, none⟩) 1 1, .slice (some ⟨w6.heap.size + 1, 0, none⟩) 2 2] 66) := ⟨_, rfl⟩
  have s1 : ∀ (x : World) o, (x.alloc o).heap.size = x.heap.size + 1 := fun x o => by simp
  have r0 : Row w7 w6.heap.size 9 #[.string ⟨#[49]⟩] := by rw [hw7]; exact ((Row.new _ _ _).alloc _).alloc _
  have r2 : Row w7 (w6.heap.size + 1 + 1) 66 #[.slice (some ⟨w6.heap.size, 0, none⟩) 1 1, .slice (some ⟨w6.heap.size + 1, 0, none⟩) 2 2] := by
    rw [hw7]
    have := Row.new ((w6.alloc (.cells #[.string ⟨#[49]⟩] 9)).alloc (.cells #[.string ⟨#[49]⟩, .string ⟨#[50]⟩] 9)) 66 #[.slice (some ⟨w6.heap.size, 0, none⟩) 1 1, .slice (some ⟨w6.heap.size + 1, 0, none⟩) 2 2]
    rwa [s1, s1] at this
  have b67 : Below w6.heap.size w6 w7 := by rw [hw7]; exact (((Below.refl _ _).alloc (Nat.le_refl _) _).alloc (by simp) _).alloc (by simp; omega) _
  have B7 := below_seq hb6 b67
  have CM := Lib.hid (mat_New_ragged w7 _ _ _ [49] (r2.cell 0) (r2.cell 1) (r0.cell 0) good_1.1 (by simp) (HT.out.keep B7))
  have HW7 := Lib.hid hw7
  clear r0 r2 s1 hw7
  go_wp2_with fail
  rw [← HW7.out]
  refine CM.out.mono ?_
  rintro e w8 ⟨rfl, hb8⟩
  have B8 := below_seq B7 hb8
  clear CM HW7 hb6 b67 hb8 B7
  go_wp2_with fail
  refine (CO1.out _).mono ?_
  rintro e w9 ⟨x9, rfl, _, hb9⟩
  have B9 := below_seq B8 hb9
  go_wp2_with fail
  refine (CFN.out _ _).mono ?_
  rintro e w' ⟨rfl, rfl⟩
  go_wp2_with fail
  refine (CL.out _ B9).mono ?_
  rintro e w10 ⟨rfl, hb10⟩
  have B10 := below_seq B9 hb10
  go_wp2_with fail
  refine (CV.out _ B10).mono ?_
  rintro e w11 ⟨v11, rfl, hv11, hb11⟩
  have B11 := below_seq B10 hb11
  have HV := Lib.hid hv11
  clear hv11
  go_wp2_with fail
  refine (CB.out _ B11).mono ?_
  rintro e w12 ⟨rfl, hb12⟩
  have B12 := below_seq B11 hb12
  have HV2 := Lib.hid (HV.out.keep hb12)
  clear HV hb9 hb10 hb11 hb12 B8 B9 B10 B11
  go_wp2_with fail
  refine (CNT.out _ B12).mono ?_
  rintro e w13 ⟨rfl, hb13⟩
  have B13 := below_seq B12 hb13
  go_wp2_with fail
  refine (CNB.out _).mono ?_
  rintro e w' ⟨rfl, rfl⟩
  go_wp2_with fail
  refine (CNW.out _).mono ?_
  rintro e w' ⟨rfl, rfl⟩
  go_wp2_with fail
  refine (CO6.out _).mono ?_
  rintro e w14 ⟨x14, rfl, hx14, hb14⟩
  have C15 := Lib.hid (CNG.out _ _ hx14)
  have B14 := below_seq B13 hb14
  clear hx14
  go_wp2_with fail
  refine C15.out.mono ?_
  rintro e w15 ⟨x15, rfl, hx15, hb15⟩
  have B15 := below_seq B14 hb15
  have C16 := Lib.hid (CNT6.out _ _ B15 hx15)
  clear hx15 C15
  go_wp2_with fail
  refine C16.out.mono ?_
  rintro e w16 ⟨rfl, hb16⟩
  have B16 := below_seq B15 hb16
  clear C16
  go_wp2_with fail
  refine (CFT.out _ _ B16 (.inl ⟨rfl, rfl⟩)).mono ?_
  rintro e w17 ⟨rfl, hb17⟩
  have B17 := below_seq B16 hb17
  go_wp2_with fail
  refine (CFS.out _).mono ?_
  rintro e w18 ⟨rfl, hb18⟩
  have B18 := below_seq B17 hb18
  go_wp2_with fail
  refine (CFO.out _).mono ?_
  rintro e w19 ⟨x19, rfl, hx19, hb19⟩
  have B19 := below_seq B18 hb19
  have C20 := Lib.hid (CFA.out _ _ hx19)
  clear hx19
  go_wp2_with fail
  refine C20.out.mono ?_
  rintro e w20 ⟨x20, rfl, hx20, hb20⟩
  have B20 := below_seq B19 hb20
  have C21 := Lib.hid (CFT2.out _ _ B20 hx20.at_)
  clear hx20 C20
  go_wp2_with fail
  refine C21.out.mono ?_
  rintro e w21 ⟨rfl, hb21⟩
  have B21 := below_seq B20 hb21
  have HV3 := Lib.hid (((((((((HV2.out.keep hb13).keep hb14).keep hb15).keep hb16).keep hb17).keep hb18).keep hb19).keep hb20).keep hb21)
  clear C21 HV2 hb13 hb14 hb15 hb16 hb17 hb18 hb19 hb20 hb21 B12 B13 B14 B15 B16 B17 B18 B19 B20
  go_wp2_with fail
  refine (CVL.out _).mono ?_
  rintro e w' ⟨rfl, rfl⟩
  go_wp2_with fail
  refine (CVA.out _).mono ?_
  rintro e w22 ⟨x22, rfl, hx22, hb22⟩
  have B22 := below_seq B21 hb22
  have C23 := Lib.hid (CFT.out _ _ B22 hx22.at_)
  clear hx22
  go_wp2_with fail
  refine C23.out.mono ?_
  rintro e w23 ⟨rfl, hb23⟩
  have B23 := below_seq B22 hb23
  have C24 := Lib.hid (CVL2.out _ _ ((HV3.out.keep hb22).keep hb23))
  clear C23
  go_wp2_with fail
  refine C24.out.mono ?_
  rintro e w' ⟨rfl, rfl⟩
  go_wp2_with fail
  refine (CR.out _).mono ?_
  rintro e w25 ⟨rfl, hb25⟩
  go_wp2_with fail
  go_ret
  exact ⟨rfl, below_seq B23 hb25⟩
end Go.Proofs.YtohjljbhfopffaaGreatDoor
