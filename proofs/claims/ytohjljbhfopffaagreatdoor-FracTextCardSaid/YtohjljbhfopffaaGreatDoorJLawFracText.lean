/- The law FracText: any text is a fraction, its own, or none; of whole numbers. -/
import Derived.Test.YtohjljbhfopffaaGreatDoorJWalkH
import Derived.Test.YtohjljbhfopffaaGreatDoorJRefK
set_option linter.unusedVariables false
set_option linter.unusedSimpArgs false
namespace Go.Proofs.YtohjljbhfopffaaGreatDoor
open Go.RowKit Vic

set_option maxRecDepth 100000 in
set_option maxHeartbeats 8000000 in
theorem law_FracText (w : World) (ht : Tab w) (l : List UInt8) (x : Int) (hl : l.length ≤ 9223372036854775807) (h1 : -9223372036854775808 ≤ x) (h2 : x ≤ 9223372036854775807) :
    Calls Tryz.prog 3 #[.string ⟨l.toArray⟩, .int .i64 x] w (Keeps (.bool true) w) := by
  have CB := Lib.hid (law_begun w ht)
  have CT : Hid (∀ wr, Calls Tryz.prog 12 #[.string ⟨l.toArray⟩, .int .i64 (60 : Int)] wr (Keeps (.string ⟨(l.take 60).toArray⟩) wr)) := Lib.hid fun wr => law_Text wr l 60 hl (by omega)
  have htl : (l.take 60).length ≤ 60 := by rw [List.length_take]; omega
  generalize l.take 60 = s at *
  have HT := Lib.hid ht
  have hsz : (Tryz.prog.info? 30).map (·.size) = some 3 := by kernel_rfl
  have CG : Hid (∀ wr, Below w.heap.size w wr → Calls Tryz.prog 13 #[.string ⟨s.toArray⟩] wr (GotFrac s wr)) := Lib.hid fun wr h => frac_Get wr s (by omega) (HT.out.keep h)
  have CR : Hid (∀ wr, Calls Tryz.prog 14 #[.string ⟨s.toArray⟩] wr (RefGotQ s wr)) := Lib.hid fun wr => ref_Get wr s (by omega)
  have CO : Hid (∀ wr, Calls Tryz.prog 17 #[.int .i64 x] wr (Gives (fun v w' => FracPtr w' v (x : Rat)) wr)) := Lib.hid fun wr => frac_Of wr x h1 h2
  have CP : Hid (∀ wr, Calls Tryz.prog 18 #[.int .i64 x] wr (Gives (fun v w' => RefQ w' v (decide (x < 0)) x.natAbs 1) wr)) := Lib.hid fun wr => ref_Of wr x h1 h2
  have hq : quo (decide (x < 0)) x.natAbs 1 = (x : Rat) := by
    rw [quo_one]
    congr 1
    unfold sgn
    by_cases h : x < 0
    · rw [decide_eq_true h, if_pos rfl]; omega
    · rw [decide_eq_false h, if_neg (by simp)]; omega
  obtain ⟨X, hX⟩ : ∃ X : ByteArray, X = ⟨(fracText (x : Rat)).toArray⟩ := ⟨_, rfl⟩
  have CO2 : Hid (∀ wr v, Below w.heap.size w wr → FracPtr wr v (x : Rat) → Calls Tryz.prog 15 #[v] wr (Keeps (.string X) wr)) := Lib.hid fun wr v h hv => by
    rw [hX]; exact frac_Text wr v _ hv.at_ ((fits_of h1 h2).mono (by omega)) (HT.out.keep h)
  have CP2 : Hid (∀ wr v, RefQ wr v (decide (x < 0)) x.natAbs 1 → Calls Tryz.prog 16 #[v] wr (Keeps (.string X) wr)) := Lib.hid fun wr v hv => by
    rw [hX, ← hq]
    refine ref_Q_Text wr v _ _ 1 hv (by omega) ?_ (by rw [tdg_one]; simp)
    exact Nat.le_trans (tdg_len (k := 5) (Nat.lt_of_le_of_lt (show x.natAbs ≤ 9223372036854775808 by omega) (by decide))) (by omega)
  obtain ⟨S, hS⟩ : ∃ S : ByteArray, S = ⟨s.toArray⟩ := ⟨_, rfl⟩
  rw [← hS] at CT CG CR
  have HS := Lib.hid hS
  clear ht hl hS htl hq hX h1 h2
  go_enter Tryz.func3, Tryz.ntmps3
  go_wp2_with fail
  refine CB.out.mono ?_
  rintro e w1 ⟨rfl, hb1⟩
  go_wp2_with fail
  refine (CT.out _).mono ?_
  rintro e w2 ⟨rfl, hb2⟩
  have B2 := below_seq hb1 hb2
  go_wp2_with fail
  refine (CG.out _ B2).mono ?_
  rintro e w3 (⟨hbad, rfl, hb3⟩ | ⟨hgood, v3, rfl, hv3, hf3, hb3⟩)
  case' inl =>
    go_wp2_with fail
    refine (CR.out _).mono ?_
    rintro e w4 ⟨v4, b4, rfl, hb4, (⟨rfl, _, g, rfl⟩ | ⟨_, h, _⟩)⟩
    case' inr => exact absurd h hbad
    have B4 := below_seq B2 (below_seq hb3 hb4)
    have BA : ∀ cs t, Below w4.heap.size w4 (w4.alloc (.cells cs t)) := fun cs t => (Below.refl _ _).alloc (Nat.le_refl _) _
    go_wp2_with fail
    go_at_call 17
    refine (CO.out _).mono ?_
    rintro e w5 ⟨x5, rfl, hx5, hb5⟩
    have B5 := below_seq B4 (below_seq (BA _ _) hb5)
  case' inr =>
    go_wp2_with fail
    refine (CR.out _).mono ?_
    rintro e w4 ⟨v4, b4, rfl, hb4, (⟨_, h, _⟩ | ⟨rfl, _, ng, n, d, hv4, hd, hqq, hnl, hdl⟩)⟩
    case' inl => exact absurd hgood h
    have B4 := below_seq B2 (below_seq hb3 hb4)
    have BA : ∀ cs t, Below w4.heap.size w4 (w4.alloc (.cells cs t)) := fun cs t => (Below.refl _ _).alloc (Nat.le_refl _) _
    have HQ4 := Lib.hid hv4
    obtain ⟨A1, c1, A2, c2, rfl, _, _, _⟩ := hv4.open_
    have B5 := below_seq B4 (BA #[.bool ng, .slice A1 (tdg n).length c1, .slice A2 (tdg d).length c2] 30)
    have HT3 := Lib.hid (hgood.2.2.2)
    have C5 : Hid (Calls Tryz.prog 15 #[v3] (w4.alloc (.cells #[.bool ng, .slice A1 (tdg n).length c1, .slice A2 (tdg d).length c2] 30)) (Keeps (.string S) (w4.alloc (.cells #[.bool ng, .slice A1 (tdg n).length c1, .slice A2 (tdg d).length c2] 30)))) := Lib.hid (by
      have h := frac_Text (w4.alloc (.cells #[.bool ng, .slice A1 (tdg n).length c1, .slice A2 (tdg d).length c2] 30)) v3 _ ((hv3.keep hb4).keep (BA _ _)).at_ (hf3.mono (by omega)) (HT.out.keep B5)
      rw [HT3.out] at h
      rw [HS.out]
      exact h)
    have hrow : Row (w4.alloc (.cells #[.bool ng, .slice A1 (tdg n).length c1, .slice A2 (tdg d).length c2] 30)) w4.heap.size 30 #[.bool ng, .slice A1 (tdg n).length c1, .slice A2 (tdg d).length c2] := Row.new _ _ _
    have HRW := Lib.hid hrow
    have CQ : Hid (∀ wr, Below w4.heap.size w4 wr → Calls Tryz.prog 16 #[.agg #[.bool ng, .slice A1 (tdg n).length c1, .slice A2 (tdg d).length c2]] wr (Keeps (.string S) wr)) := Lib.hid fun wr h => by
      have h1 := ref_Q_Text wr _ ng n d (HQ4.out.keep h) hd (Nat.le_trans hnl (by omega)) (Nat.le_trans hdl (by omega))
      rw [hqq, HT3.out] at h1
      rw [HS.out]
      exact h1
    clear hrow hv3 hf3 hgood hv4 hd hqq hnl hdl HT3 HQ4
    go_wp2_with fail
    go_at_call 15
    refine C5.out.mono ?_
    rintro e w6 ⟨rfl, hb6⟩
    have HR6 := Lib.hid (Row.keep HRW.out hb6)
    have C7 := Lib.hid (CQ.out _ (below_seq (BA _ _) hb6))
    clear HRW CQ C5
    have q0 : w6.cell? ⟨w4.heap.size, 0, none⟩ = some (.bool ng) := HR6.out.cell 0
    have q1 : w6.cell? ⟨w4.heap.size, 1, none⟩ = some (.slice A1 (tdg n).length c1) := HR6.out.cell 1
    have q2 : w6.cell? ⟨w4.heap.size, 2, none⟩ = some (.slice A2 (tdg d).length c2) := HR6.out.cell 2
    go_wp2_with fail
    go_at_call 16
    refine C7.out.mono ?_
    rintro e w7 ⟨rfl, hb7⟩
    have B7 := below_seq B5 (below_seq hb6 hb7)
    go_wp2_with fail
    go_at_call 17
    refine (CO.out _).mono ?_
    rintro e w5 ⟨x5, rfl, hx5, hb5⟩
    have B5 := below_seq B7 hb5
  all_goals
    have C6 := Lib.hid (CO2.out _ _ B5 hx5)
    clear hx5
    go_wp2_with fail
    refine C6.out.mono ?_
    rintro e w6 ⟨rfl, hb6⟩
    have B6 := below_seq B5 hb6
    clear C6
    go_wp2_with fail
    refine (CP.out _).mono ?_
    rintro e w7 ⟨x7, rfl, hx7, hb7⟩
    have B7 := below_seq B6 hb7
    have C8 := Lib.hid (CP2.out _ _ hx7)
    clear hx7
    go_wp2_with fail
    refine C8.out.mono ?_
    rintro e w8 ⟨rfl, hb8⟩
    go_wp2_with fail
    go_ret
    exact ⟨rfl, below_seq B7 hb8⟩
end Go.Proofs.YtohjljbhfopffaaGreatDoor
