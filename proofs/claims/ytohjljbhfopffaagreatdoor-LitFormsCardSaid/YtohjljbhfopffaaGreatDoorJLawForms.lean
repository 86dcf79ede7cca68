/- The law LitForms: one number in many forms. -/
import Derived.Test.YtohjljbhfopffaaGreatDoorJWalkH
import Derived.Test.YtohjljbhfopffaaGreatDoorJLitC
import Derived.Test.YtohjljbhfopffaaGreatDoorJLitD
import Derived.Test.YtohjljbhfopffaaGreatDoorJRefM
import Derived.Deep.RegionWith
set_option linter.unusedVariables false
set_option linter.unusedSimpArgs false
namespace Vic
open Go Go.RowKit
theorem at_mod (x : Int) (L : Nat) (hL : L ≤ 12) : ∃ (tm : Int) (k : Nat), x.tmod ((L : Int) + 1) = tm ∧ -13 ≤ tm ∧ tm ≤ 13 ∧ (tm + (L : Int) + 1).tmod ((L : Int) + 1) = (k : Int) ∧ k ≤ L ∧ 0 ≤ tm + (L : Int) + 1 := by
  have h1 := Int.lt_tmod_of_pos x (show (0 : Int) < (L : Int) + 1 by omega)
  have h2 := Int.tmod_lt_of_pos x (show (0 : Int) < (L : Int) + 1 by omega)
  obtain ⟨tm, htm⟩ : ∃ tm, tm = x.tmod ((L : Int) + 1) := ⟨_, rfl⟩
  rw [← htm] at h1 h2
  have h3 := Int.tmod_lt_of_pos (tm + (L : Int) + 1) (show (0 : Int) < (L : Int) + 1 by omega)
  have h4 := Int.tmod_nonneg (a := tm + (L : Int) + 1) ((L : Int) + 1) (by omega)
  exact ⟨tm, ((tm + (L : Int) + 1).tmod ((L : Int) + 1)).toNat, htm.symm, by omega, by omega, by omega, by omega, by omega⟩
theorem quo_int (x : Int) : quo (decide (x < 0)) x.natAbs 1 = (x : Rat) := by
  rw [quo_one]
  congr 1
  unfold sgn
  by_cases h : x < 0
  · rw [decide_eq_true h, if_pos rfl]; omega
  · rw [decide_eq_false h, if_neg (by simp)]; omega
theorem sgn_int (x : Int) : sgn (decide (x < 0)) x.natAbs = x := by
  unfold sgn
  by_cases h : x < 0
  · rw [decide_eq_true h, if_pos rfl]; omega
  · rw [decide_eq_false h, if_neg (by simp)]; omega
theorem sgnT_len (b : Bool) (l : List UInt8) : (sgnT b l).length ≤ l.length + 1 := by unfold sgnT; cases b <;> simp
theorem form_quo (neg : Bool) (n : Nat) (p : Int) : quo (neg && decide (n ≠ 0)) (n * 10 ^ p.toNat) (10 ^ (-p).toNat) = qv neg n p := by
  rw [qv_quo]
  have e : decide (n ≠ 0) = decide (n * 10 ^ p.toNat ≠ 0) := by
    apply decide_eq_decide.2
    have h : 10 ^ p.toNat ≠ 0 := Nat.ne_of_gt (Nat.pow_pos (by omega))
    constructor
    · intro h1 h2; rcases Nat.mul_eq_zero.1 h2 with h3 | h3
      · exact h1 h3
      · exact h h3
    · intro h1 h2; subst h2; simp at h1
  rw [e, quo_zero_sgn]
end Vic
namespace Go.Proofs.YtohjljbhfopffaaGreatDoor
open Go.RowKit Vic

set_option maxRecDepth 100000 in
set_option maxHeartbeats 8000000 in
theorem law_LitForms (w : World) (ht : Tab w) (l : List UInt8) (x e0 : Int) (neg : Bool) (hl : l.length ≤ 9223372036854775807) (h1 : -9223372036854775808 ≤ x) (h2 : x ≤ 9223372036854775807) (h3 : -9223372036854775808 ≤ e0) (h4 : e0 ≤ 9223372036854775807) :
    Calls Tryz.prog 7 #[.string ⟨l.toArray⟩, .int .i64 x, .int .i64 e0, .bool neg] w (Keeps (.bool true) w) := by
  have CB := Lib.hid (law_begun w ht)
  have CD : Hid (∀ wr, Calls Tryz.prog 26 #[.string ⟨l.toArray⟩, .int .i64 12] wr (GivesDigits 12 wr)) := Lib.hid fun wr => law_Digits wr l 12 hl (by omega) (by omega)
  have HT := Lib.hid ht
  obtain ⟨ev, hev⟩ : ∃ ev, ev = e0.tmod 60 := ⟨_, rfl⟩
  have hev1 : -59 ≤ ev := by have := Int.lt_tmod_of_pos e0 (show (0 : Int) < 60 by omega); omega
  have hev2 : ev ≤ 59 := by have := Int.tmod_lt_of_pos e0 (show (0 : Int) < 60 by omega); omega
  have hev3 := hev.symm
  have hsz : (Tryz.prog.info? 30).map (·.size) = some 3 := by kernel_rfl
  clear ht hl hev
  go_enter Tryz.func7, Tryz.ntmps7
  go_wp2_with fail
  refine CB.out.mono ?_
  rintro e w1 ⟨rfl, hb1⟩
  go_wp2_with fail
  refine (CD.out _).mono ?_
  rintro e w2 ⟨d, rfl, hcan, hdl, hb2⟩
  have B2 := below_seq hb1 hb2
  obtain ⟨L, hL⟩ : ∃ L, L = d.length := ⟨_, rfl⟩
  have hL0 : 1 ≤ L := by rw [hL]; exact List.length_pos_iff.2 hcan.1
  obtain ⟨tm, k, htm, htm1, htm2, hk, hkL, htm3⟩ := at_mod x d.length (by omega)
  rw [← hL] at hdl hkL
  have hnz : (d.length : Int) + 1 ≠ 0 := by omega
  have HCAN := Lib.hid hcan
  clear CB CD hb1 hb2 hcan
  obtain ⟨A, hA⟩ : ∃ A, A = d.take k := ⟨_, rfl⟩
  obtain ⟨B, hB⟩ : ∃ B, B = d.drop k := ⟨_, rfl⟩
  have hAB : A ++ B = d := by rw [hA, hB]; exact List.take_append_drop k d
  have hBl : B.length = L - k := by rw [hB, List.length_drop, hL]
  have hBl2 : B.length ≤ 12 := by omega
  have hAl : A.length ≤ 12 := by rw [hA, List.length_take]; omega
  have hs1 : (⟨d.toArray⟩ : ByteArray).extract 0 k = ⟨A.toArray⟩ := by rw [bytes_take, hA]
  have hs2 : (⟨d.toArray⟩ : ByteArray).extract k d.length = ⟨B.toArray⟩ := by rw [bytes_drop _ _ _ rfl, hB]
  obtain ⟨f, hf⟩ : ∃ f : Int, f = ev - (d.length : Int) + (k : Int) := ⟨_, rfl⟩
  have hf1 : -71 ≤ f := by omega
  have hf2 : f ≤ 59 := by omega
  have hf3 := hf.symm
  obtain ⟨E1, hE1⟩ : ∃ E1, E1 = sgnT (decide (ev < 0)) (Lib.decDigits ev.natAbs) := ⟨_, rfl⟩
  obtain ⟨F1, hF1⟩ : ∃ F1, F1 = sgnT (decide (f < 0)) (Lib.decDigits f.natAbs) := ⟨_, rfl⟩
  have hE1l : E1.length ≤ 4 := by
    have h1 : (Lib.decDigits ev.natAbs).length ≤ 3 := dec_len (k := 2) (by omega)
    have h2 := sgnT_len (decide (ev < 0)) (Lib.decDigits ev.natAbs)
    rw [hE1]; omega
  have hF1l : F1.length ≤ 4 := by
    have h1 : (Lib.decDigits f.natAbs).length ≤ 3 := dec_len (k := 2) (by omega)
    have h2 := sgnT_len (decide (f < 0)) (Lib.decDigits f.natAbs)
    rw [hF1]; omega
  obtain ⟨X1, hX1⟩ : ∃ X1, X1 = (if neg then [45] else []) ++ A := ⟨_, rfl⟩
  obtain ⟨X2, hX2⟩ : ∃ X2, X2 = X1 ++ [46] := ⟨_, rfl⟩
  obtain ⟨X3, hX3⟩ : ∃ X3, X3 = X2 ++ B := ⟨_, rfl⟩
  obtain ⟨X4, hX4⟩ : ∃ X4, X4 = X3 ++ [101] := ⟨_, rfl⟩
  obtain ⟨X, hX⟩ : ∃ X, X = X4 ++ E1 := ⟨_, rfl⟩
  obtain ⟨Y1, hY1⟩ : ∃ Y1, Y1 = (if neg then [45] else []) ++ d := ⟨_, rfl⟩
  obtain ⟨Y2, hY2⟩ : ∃ Y2, Y2 = Y1 ++ [69] := ⟨_, rfl⟩
  obtain ⟨Y, hY⟩ : ∃ Y, Y = Y2 ++ F1 := ⟨_, rfl⟩
  have hX1l : X1.length ≤ 13 := by rw [hX1]; cases neg <;> simp <;> omega
  have hX2l : X2.length ≤ 14 := by rw [hX2]; simp; omega
  have hX3l : X3.length ≤ 26 := by rw [hX3]; simp; omega
  have hX4l : X4.length ≤ 27 := by rw [hX4]; simp; omega
  have hY1l : Y1.length ≤ 13 := by rw [hY1]; cases neg <;> simp <;> omega
  have hY2l : Y2.length ≤ 14 := by rw [hY2]; simp; omega
  have c1 : (⟨(if neg then ([45] : List UInt8) else []).toArray⟩ ++ ⟨A.toArray⟩ : ByteArray) = ⟨X1.toArray⟩ := by rw [hX1]; exact bytes_app _ _
  have c2 : (⟨X1.toArray⟩ ++ ⟨#[46]⟩ : ByteArray) = ⟨X2.toArray⟩ := by rw [hX2]; exact bytes_app _ [46]
  have c3 : (⟨X2.toArray⟩ ++ ⟨B.toArray⟩ : ByteArray) = ⟨X3.toArray⟩ := by rw [hX3]; exact bytes_app _ _
  have c4 : (⟨X3.toArray⟩ ++ ⟨#[101]⟩ : ByteArray) = ⟨X4.toArray⟩ := by rw [hX4]; exact bytes_app _ [101]
  have c5 : (⟨X4.toArray⟩ ++ ⟨E1.toArray⟩ : ByteArray) = ⟨X.toArray⟩ := by rw [hX]; exact bytes_app _ _
  have c6 : (⟨(if neg then ([45] : List UInt8) else []).toArray⟩ ++ ⟨d.toArray⟩ : ByteArray) = ⟨Y1.toArray⟩ := by rw [hY1]; exact bytes_app _ _
  have c7 : (⟨Y1.toArray⟩ ++ ⟨#[69]⟩ : ByteArray) = ⟨Y2.toArray⟩ := by rw [hY2]; exact bytes_app _ [69]
  have c8 : (⟨Y2.toArray⟩ ++ ⟨F1.toArray⟩ : ByteArray) = ⟨Y.toArray⟩ := by rw [hY]; exact bytes_app _ _
  have hXe : X = sgnT neg ((A ++ (if true then 46 :: B else [])) ++ 101 :: E1) := by rw [hX, hX4, hX3, hX2, hX1]; unfold sgnT; simp
  have hYe : Y = sgnT neg ((d ++ (if false then 46 :: ([] : List UInt8) else [])) ++ 69 :: F1) := by rw [hY, hY2, hY1]; unfold sgnT; simp
  obtain ⟨n, hn⟩ : ∃ n, n = numOf 0 d := ⟨_, rfl⟩
  have hn12 : n < 10 ^ 12 := by rw [hn]; exact Nat.lt_of_lt_of_le (numOf_lt d HCAN.out.2.1) (Nat.pow_le_pow_right (by omega) (by omega))
  obtain ⟨Q, hQ⟩ : ∃ Q, Q = qv neg n f := ⟨_, rfl⟩
  have hfit : Fits 23 Q := by rw [hQ]; exact qv_fits hn12 (by omega) (by omega)
  obtain ⟨St, hSt⟩ : ∃ St, St = fracText Q := ⟨_, rfl⟩
  have hdn : (Lib.decDigits Q.num.natAbs).length ≤ 231 := dec_sz hfit.1
  have hdd : (Lib.decDigits Q.den).length ≤ 231 := dec_sz hfit.2
  have hStl : St.length ≤ 1000 := by
    rw [hSt, fracText_sgnT]
    have h1 := sgnT_len (decide (Q.num < 0)) (Lib.decDigits Q.num.natAbs ++ (if Q.den = 1 then [] else 47 :: Lib.decDigits Q.den))
    have h2 : (Lib.decDigits Q.num.natAbs ++ (if Q.den = 1 then [] else 47 :: Lib.decDigits Q.den)).length ≤ 463 := by
      rw [List.length_append]; split <;> simp <;> omega
    omega
  have hgood := fracGood_text Q (by omega) (by omega)
  rw [← hSt] at hgood
  have hsgE := sgn_int ev
  have hsgF := sgn_int f
  have CX1 : Hid (∀ W, Below w2.heap.size w2 W → Calls Tryz.prog 27 #[.string ⟨X.toArray⟩] W (GivesOk (fun x w' => FracPtr w' x Q) W)) := Lib.hid fun W h => by
    have h1 := lit_Get_form W (HT.out.keep (below_seq B2 h)) neg A B true 101 (.inl rfl) (by simp) (by rw [hAB]; exact HCAN.out) (by rw [hAB]; omega) (decide (ev < 0)) ev.natAbs (by omega) (by intro h; have := of_decide_eq_true h; omega)
    rw [hsgE, hAB, ← hn, ← hE1, show ev - ((B.length : Nat) : Int) = f by omega, ← hQ] at h1
    rw [hXe]; exact h1
  have CY1 : Hid (∀ W, Below w2.heap.size w2 W → Calls Tryz.prog 27 #[.string ⟨Y.toArray⟩] W (GivesOk (fun x w' => FracPtr w' x Q) W)) := Lib.hid fun W h => by
    have h1 := lit_Get_form W (HT.out.keep (below_seq B2 h)) neg d [] false 69 (.inr rfl) (by simp) (by rw [List.append_nil]; exact HCAN.out) (by rw [List.append_nil]; omega) (decide (f < 0)) f.natAbs (by omega) (by intro h; have := of_decide_eq_true h; omega)
    rw [hsgF, List.append_nil, ← hn, ← hF1, show f - ((([] : List UInt8).length : Nat) : Int) = f by simp, ← hQ] at h1
    rw [hYe]; exact h1
  obtain ⟨sb, hsb⟩ : ∃ sb, sb = (neg && decide (n ≠ 0)) := ⟨_, rfl⟩
  obtain ⟨N1, hN1⟩ : ∃ N1, N1 = n * 10 ^ f.toNat := ⟨_, rfl⟩
  obtain ⟨D1, hD1⟩ : ∃ D1, D1 = 10 ^ (-f).toNat := ⟨_, rfl⟩
  have hD0 : D1 ≠ 0 := by rw [hD1]; exact Nat.ne_of_gt (Nat.pow_pos (by omega))
  have hN1l : (tdg N1).length ≤ 10000 := by rw [hN1]; exact Nat.le_trans (tdg_p12 hn12 (by omega)) (by omega)
  have hD1l : (tdg D1).length ≤ 10000 := by
    have h := tdg_p12 (n := 1) (q := (-f).toNat) (by omega) (by omega)
    rw [Nat.one_mul, ← hD1] at h
    exact Nat.le_trans h (by omega)
  have hquo : quo sb N1 D1 = Q := by rw [hsb, hN1, hD1, hQ]; exact form_quo neg n f
  have CR1 : Hid (∀ W, Calls Tryz.prog 28 #[.string ⟨X.toArray⟩] W (fun e w' => ∃ v, e = .returned (.tuple #[v, .bool true]) ∧ RefQ w' v sb N1 D1 ∧ Below W.heap.size W w')) := Lib.hid fun W => by
    have h1 := ref_Lit_form W neg A B true 101 (.inl rfl) (by simp) (by rw [hAB]; exact HCAN.out) (by rw [hAB]; omega) (decide (ev < 0)) ev.natAbs (by omega) (by intro h; have := of_decide_eq_true h; omega)
    rw [hsgE, hAB, ← hn, ← hE1, show ev - ((B.length : Nat) : Int) = f by omega, ← hsb, ← hN1, ← hD1] at h1
    rw [hXe]; exact h1
  have CTQ : Hid (∀ W v, RefQ W v sb N1 D1 → Calls Tryz.prog 16 #[v] W (Keeps (.string ⟨St.toArray⟩) W)) := Lib.hid fun W v h => by
    have h1 := ref_Q_Text W v sb N1 D1 h hD0 hN1l hD1l
    rw [hquo, ← hSt] at h1
    exact h1
  have CTA : Hid (∀ W v, Below w2.heap.size w2 W → FracPtr W v Q → Calls Tryz.prog 15 #[v] W (Keeps (.string ⟨St.toArray⟩) W)) := Lib.hid fun W v h hv => by
    rw [hSt]; exact frac_Text W v Q hv.at_ (hfit.mono (by omega)) (HT.out.keep (below_seq B2 h))
  have CCM : Hid (∀ W u v, FracPtr W u Q → FracPtr W v Q → Calls Tryz.prog 29 #[u, v] W (Keeps (.int .i64 0) W)) := Lib.hid fun W u v hu hv => frac_Cmp_same W u v Q hu.at_ hv.at_ (hfit.mono (by omega))
  have CLY : Hid (St.length ≤ 40 → ∀ W, Below w2.heap.size w2 W → Calls Tryz.prog 27 #[.string ⟨St.toArray⟩] W (GivesOk (fun x w' => FracPtr w' x Q) W)) := Lib.hid fun h40 W h => by
    have h1 := lit_Get_frac W (HT.out.keep (below_seq B2 h)) St h40 hgood.1
    rwa [hgood.2] at h1
  have CLN : Hid (40 < St.length → ∀ W, Calls Tryz.prog 27 #[.string ⟨St.toArray⟩] W (GivesNo W)) := Lib.hid fun h40 W => lit_Get_long W St h40 (by omega)
  have COf : Hid (∀ W (y : Int), -1000 ≤ y → y ≤ 1000 → Calls Tryz.prog 18 #[.int .i64 y] W (Gives (fun v w' => RefQ w' v (decide (y < 0)) y.natAbs 1) W)) := Lib.hid fun W y h1 h2 => ref_Of W y (by omega) (by omega)
  have COT : Hid (∀ W v (y : Int), -1000 ≤ y → y ≤ 1000 → RefQ W v (decide (y < 0)) y.natAbs 1 → Calls Tryz.prog 16 #[v] W (Keeps (.string ⟨(sgnT (decide (y < 0)) (Lib.decDigits y.natAbs)).toArray⟩) W)) := Lib.hid fun W v y h1 h2 hv => by
    have h := ref_Q_Text W v _ _ 1 hv (by omega) (Nat.le_trans (tdg_len (k := 1) (by omega)) (by omega)) (by rw [tdg_one]; simp)
    rw [quo_int, fracText_int] at h
    exact h
  have COTE : Hid (∀ W v, RefQ W v (decide (ev < 0)) ev.natAbs 1 → Calls Tryz.prog 16 #[v] W (Keeps (.string ⟨E1.toArray⟩) W)) := Lib.hid fun W v h => by rw [hE1]; exact COT.out W v ev (by omega) (by omega) h
  have COTF : Hid (∀ W v, RefQ W v (decide (f < 0)) f.natAbs 1 → Calls Tryz.prog 16 #[v] W (Keeps (.string ⟨F1.toArray⟩) W)) := Lib.hid fun W v h => by rw [hF1]; exact COT.out W v f (by omega) (by omega) h
  clear hA hB hAB hE1 hF1 hX1 hX2 hX3 hX4 hX hY1 hY2 hY hXe hYe hn hn12 hQ hfit hSt hdn hdd hgood hsgE hsgF hsb hN1 hD1 hD0 hN1l hD1l hquo COT HCAN HT hf hBl
  cases neg
  · change (⟨#[]⟩ ++ ⟨A.toArray⟩ : ByteArray) = ⟨X1.toArray⟩ at c1
    change (⟨#[]⟩ ++ ⟨d.toArray⟩ : ByteArray) = ⟨Y1.toArray⟩ at c6
    go_wp2_with fail
    refine wp_region_any (by kernel_rfl) ?_
    change wpAny _ _ _ _ _ _ _ (World.drew _)
    obtain ⟨W0, hW0⟩ : ∃ W0, W0 = w2.drew := ⟨_, rfl⟩
    rw [← hW0]
    have z0 : Below w2.heap.size w2 W0 := by rw [hW0]; exact Below.drewN_ (Below.refl _ _) 1
    clear hW0
    refine wpAny_take (i := 0) (v := .string ⟨#[]⟩) rfl (by kernel_rfl) (by kernel_rfl) (by kernel_rfl) (fun _ _ _ h => h) (Or.inl ⟨by kernel_rfl, ?_⟩) ?_
    · intro w; go_simp <;> first | omega | (intro hh; exfalso; omega)
    refine wpAny_take (i := 1) (v := .string ⟨d.toArray⟩) rfl (by kernel_rfl) (by kernel_rfl) (by kernel_rfl) (fun _ _ _ h => h) (Or.inl ⟨by kernel_rfl, ?_⟩) ?_
    · intro w; go_simp <;> first | omega | (intro hh; exfalso; omega)
    refine wpAny_take (i := 2) (v := .int .i64 k) rfl (by kernel_rfl) (by kernel_rfl) (by kernel_rfl) (fun _ _ _ h => h) (Or.inl ⟨by kernel_rfl, ?_⟩) ?_
    · intro w; go_simp <;> first | omega | (intro hh; exfalso; omega)
    refine wpAny_take (i := 3) (v := .string ⟨A.toArray⟩) rfl (by kernel_rfl) (by kernel_rfl) (by kernel_rfl) (fun _ _ _ h => h) (Or.inl ⟨by kernel_rfl, ?_⟩) ?_
    · intro w; go_simp <;> first | omega | (intro hh; exfalso; omega)
    refine wpAny_take (i := 4) (v := .string ⟨X1.toArray⟩) rfl (by kernel_rfl) (by kernel_rfl) (by kernel_rfl) (fun _ _ _ h => h) (Or.inl ⟨by kernel_rfl, ?_⟩) ?_
    · intro w; go_simp <;> first | omega | (intro hh; exfalso; omega)
    refine wpAny_take (i := 5) (v := .string ⟨X2.toArray⟩) rfl (by kernel_rfl) (by kernel_rfl) (by kernel_rfl) (fun _ _ _ h => h) (Or.inl ⟨by kernel_rfl, ?_⟩) ?_
    · intro w; go_simp <;> first | omega | (intro hh; exfalso; omega)
    refine wpAny_take (i := 6) (v := .string ⟨d.toArray⟩) rfl (by kernel_rfl) (by kernel_rfl) (by kernel_rfl) (fun _ _ _ h => h) (Or.inl ⟨by kernel_rfl, ?_⟩) ?_
    · intro w; go_simp <;> first | omega | (intro hh; exfalso; omega)
    refine wpAny_take (i := 7) (v := .int .i64 k) rfl (by kernel_rfl) (by kernel_rfl) (by kernel_rfl) (fun _ _ _ h => h) (Or.inl ⟨by kernel_rfl, ?_⟩) ?_
    · intro w; go_simp <;> first | omega | (intro hh; exfalso; omega)
    refine wpAny_take (i := 8) (v := .string ⟨B.toArray⟩) rfl (by kernel_rfl) (by kernel_rfl) (by kernel_rfl) (fun _ _ _ h => h) (Or.inl ⟨by kernel_rfl, ?_⟩) ?_
    · intro w; go_simp <;> first | omega | (intro hh; exfalso; omega)
    refine wpAny_take (i := 9) (v := .string ⟨X3.toArray⟩) rfl (by kernel_rfl) (by kernel_rfl) (by kernel_rfl) (fun _ _ _ h => h) (Or.inl ⟨by kernel_rfl, ?_⟩) ?_
    · intro w; go_simp <;> first | omega | (intro hh; exfalso; omega)
    refine wpAny_take (i := 10) (v := .string ⟨X4.toArray⟩) rfl (by kernel_rfl) (by kernel_rfl) (by kernel_rfl) (fun _ _ _ h => h) (Or.inl ⟨by kernel_rfl, ?_⟩) ?_
    · intro w; go_simp <;> first | omega | (intro hh; exfalso; omega)
    refine wpAny_take (i := 11) (v := .int .i64 ev) rfl (by kernel_rfl) (by kernel_rfl) (by kernel_rfl) (fun _ _ _ h => h) (Or.inl ⟨by kernel_rfl, ?_⟩) ?_
    · intro w; go_simp <;> first | omega | (intro hh; exfalso; omega)
    refine wpAny_ready (rs := [12]) (by kernel_rfl) (by simp) ?_
    refine AllReady.cons rfl (fun K hK => ?_) AllReady.nil
    go_simp
    go_at_call 18
    refine (COf.out _ ev (by omega) (by omega)).mono ?_
    rintro e w3 ⟨x3, rfl, hx3, hb3⟩
    refine hK _ _ ?_
    clear hK K
    have C3 := Lib.hid (COTE.out _ _ hx3)
    clear hx3
    refine wpAny_ready (rs := [13]) (by kernel_rfl) (by simp) ?_
    refine AllReady.cons rfl (fun K hK => ?_) AllReady.nil
    go_simp
    go_at_call 16
    refine (C3.out).mono ?_
    rintro e w4 ⟨rfl, hb4⟩
    refine hK _ _ ?_
    clear hK K
    refine wpAny_take (i := 14) (v := .string ⟨X.toArray⟩) rfl (by kernel_rfl) (by kernel_rfl) (by kernel_rfl) (fun _ _ _ h => h) (Or.inl ⟨by kernel_rfl, ?_⟩) ?_
    · intro w; go_simp <;> first | omega | (intro hh; exfalso; omega)
    refine wpAny_take (i := 15) (v := .string ⟨X.toArray⟩) rfl (by kernel_rfl) (by kernel_rfl) (by kernel_rfl) (fun _ _ _ h => h) (Or.inl ⟨by kernel_rfl, ?_⟩) ?_
    · intro w; go_simp <;> first | omega | (intro hh; exfalso; omega)
    refine wpAny_done (by kernel_rfl) ?_ _
    have z4 := below_seq z0 (below_seq hb3 hb4)
    clear C3 hb3 hb4 z0 hs1 hs2
    go_wp2_with fail
    go_at_call 18
    refine (COf.out _ f (by omega) (by omega)).mono ?_
    rintro e w5 ⟨x5, rfl, hx5, hb5⟩
    have C5 := Lib.hid (COTF.out _ _ hx5)
    clear hx5
    go_wp2_with fail
    go_at_call 16
    refine C5.out.mono ?_
    rintro e w6 ⟨rfl, hb6⟩
    have z6 := below_seq z4 (below_seq hb5 hb6)
    clear C5 hb5 hb6 z4 COTE COTF COf
    go_wp2_with fail
    go_at_call 27
    refine (CX1.out _ z6).mono ?_
    rintro e w7 ⟨x7, rfl, hx7, hb7⟩
    have z7 := below_seq z6 hb7
    have HX7 := Lib.hid hx7
    clear hx7
    go_wp2_with fail
    go_at_call 27
    refine (CY1.out _ z7).mono ?_
    rintro e w8 ⟨x8, rfl, hx8, hb8⟩
    have z8 := below_seq z7 hb8
    have HX8 := Lib.hid (hx8)
    have HXa := Lib.hid (HX7.out.keep hb8)
    clear hx8 HX7 CX1 CY1
    go_wp2_with fail
    go_at_call 28
    refine (CR1.out _).mono ?_
    rintro e w9 ⟨v9, rfl, hv9, hb9⟩
    have HQ9 := Lib.hid hv9
    obtain ⟨A1, q1, A2, q2, rfl, _, _, _⟩ := hv9.open_
    obtain ⟨m1, hm1⟩ : ∃ m1, m1 = (tdg N1).length := ⟨_, rfl⟩
    obtain ⟨m2, hm2⟩ : ∃ m2, m2 = (tdg D1).length := ⟨_, rfl⟩
    rw [← hm1, ← hm2] at HQ9 ⊢
    obtain ⟨w10, hw10⟩ : ∃ w10, w10 = w9.alloc (.cells #[.bool sb, .slice A1 m1 q1, .slice A2 m2 q2] 30) := ⟨_, rfl⟩
    have h910 : Below w9.heap.size w9 w10 := by rw [hw10]; exact (Below.refl _ _).alloc (Nat.le_refl _) _
    have HR10 := Lib.hid (show Row w10 w9.heap.size 30 #[.bool sb, .slice A1 m1 q1, .slice A2 m2 q2] by rw [hw10]; exact Row.new _ _ _)
    have y10 := below_seq hb9 h910
    have z10 := below_seq z8 y10
    have HA10 := Lib.hid (HXa.out.keep y10)
    have HB10 := Lib.hid (HX8.out.keep y10)
    have HQ10 := Lib.hid (HQ9.out.keep h910)
    have HW10 := Lib.hid hw10
    have C11 := Lib.hid (CTA.out _ _ z10 HA10.out)
    clear hw10 h910 y10 hv9 hm1 hm2 HQ9 HXa HX8 CR1 hb7 hb8 hb9 z6 z7 z8 c1 c2 c3 c4 c5 c6 c7 c8
    go_wp2_with fail
    rw [← HW10.out]
    go_at_call 15
    refine C11.out.mono ?_
    rintro e w11 ⟨rfl, hb11⟩
    have z11 := below_seq z10 hb11
    clear C11 HW10
    by_cases h40 : St.length ≤ 40
    · have C12 := Lib.hid (CLY.out h40 _ z11)
      have hd40 : decide ((40 : Int) < (St.length : Int)) = false := decide_eq_false (by omega)
      clear CLY CLN
      go_wp2_with fail
      go_at_call 27
      refine C12.out.mono ?_
      rintro e w12 ⟨x12, rfl, hx12, hb12⟩
      have y12 := below_seq hb11 hb12
      have HC := Lib.hid hx12
      have z12 := below_seq z11 hb12
      have KA : Hid (∀ W, Below w12.heap.size w12 W → FracPtr W x7 Q) := Lib.hid fun W h => HA10.out.keep (below_seq y12 h)
      have KB : Hid (∀ W, Below w12.heap.size w12 W → FracPtr W x8 Q) := Lib.hid fun W h => HB10.out.keep (below_seq y12 h)
      have KR : Hid (∀ W, Below w12.heap.size w12 W → Row W w9.heap.size 30 #[.bool sb, .slice A1 m1 q1, .slice A2 m2 q2]) := Lib.hid fun W h => Row.keep HR10.out (below_seq y12 h)
      have KQ : Hid (∀ W, Below w12.heap.size w12 W → RefQ W (.agg #[.bool sb, .slice A1 m1 q1, .slice A2 m2 q2]) sb N1 D1) := Lib.hid fun W h => HQ10.out.keep (below_seq y12 h)
      have T1 : Hid (∀ W, Below w12.heap.size w12 W → Calls Tryz.prog 15 #[x7] W (fun e w' => e = .returned (.string ⟨St.toArray⟩) ∧ Below w12.heap.size w12 w')) := Lib.hid fun W h => by
        refine (CTA.out W x7 (below_seq z12 h) (KA.out W h)).mono ?_
        rintro e w' ⟨rfl, hb⟩
        exact ⟨rfl, below_seq h hb⟩
      have T2 : Hid (∀ W, Below w12.heap.size w12 W → Calls Tryz.prog 16 #[.agg #[.bool sb, .slice A1 m1 q1, .slice A2 m2 q2]] W (fun e w' => e = .returned (.string ⟨St.toArray⟩) ∧ Below w12.heap.size w12 w')) := Lib.hid fun W h => by
        refine (CTQ.out W _ (KQ.out W h)).mono ?_
        rintro e w' ⟨rfl, hb⟩
        exact ⟨rfl, below_seq h hb⟩
      have M1 : Hid (∀ W, Below w12.heap.size w12 W → Calls Tryz.prog 29 #[x7, x8] W (fun e w' => e = .returned (.int .i64 0) ∧ Below w12.heap.size w12 w')) := Lib.hid fun W h => by
        refine (CCM.out W x7 x8 (KA.out W h) (KB.out W h)).mono ?_
        rintro e w' ⟨rfl, hb⟩
        exact ⟨rfl, below_seq h hb⟩
      have M2 : Hid (∀ W, Below w12.heap.size w12 W → Calls Tryz.prog 29 #[x12, x7] W (fun e w' => e = .returned (.int .i64 0) ∧ Below w12.heap.size w12 w')) := Lib.hid fun W h => by
        refine (CCM.out W x12 x7 (HC.out.keep h) (KA.out W h)).mono ?_
        rintro e w' ⟨rfl, hb⟩
        exact ⟨rfl, below_seq h hb⟩
      clear hx12
      have hbe : (St == St) = true := beq_self_eq_true St
      clear hb11 hb12 y12 z11 z10 C12 HA10 HB10 HQ10 HR10 CTA CTQ CCM KA KB KQ
      go_wp2_with fail
      refine wp_region_any (by kernel_rfl) ?_
      change wpAny _ _ _ _ _ _ _ (World.drew _)
      obtain ⟨W0, hW0⟩ : ∃ W0, W0 = w12.drew := ⟨_, rfl⟩
      rw [← hW0]
      have z0 : Below w12.heap.size w12 W0 := by rw [hW0]; exact Below.drewN_ (Below.refl _ _) 1
      clear hW0
      refine wpAny_take (i := 0) (v := x7) rfl (by kernel_rfl) (by kernel_rfl) (by kernel_rfl) (fun _ _ _ h => h) (Or.inl ⟨by kernel_rfl, ?_⟩) ?_
      · intro w; go_simp <;> first | omega | (intro hh; exfalso; omega)
      refine wpAny_take (i := 1) (v := x8) rfl (by kernel_rfl) (by kernel_rfl) (by kernel_rfl) (fun _ _ _ h => h) (Or.inl ⟨by kernel_rfl, ?_⟩) ?_
      · intro w; go_simp <;> first | omega | (intro hh; exfalso; omega)
      refine wpAny_ready (rs := [2]) (by kernel_rfl) (by simp) ?_
      refine AllReady.cons rfl (fun K hK => ?_) AllReady.nil
      go_simp
      go_at_call 29
      refine (M1.out _ z0).mono ?_
      rintro e w13 ⟨rfl, hb13⟩
      refine hK _ _ ?_
      clear hK K
      refine wpAny_take (i := 3) (v := .bool true) rfl (by kernel_rfl) (by kernel_rfl) (by kernel_rfl) (fun _ _ _ h => h) (Or.inl ⟨by kernel_rfl, ?_⟩) ?_
      · intro w; go_simp <;> first | omega | (intro hh; exfalso; omega)
      refine wpAny_take (i := 4) (v := .bool true) rfl (by kernel_rfl) (by kernel_rfl) (by kernel_rfl) (fun _ _ _ h => h) (Or.inl ⟨by kernel_rfl, ?_⟩) ?_
      · intro w; go_simp <;> first | omega | (intro hh; exfalso; omega)
      refine wpAny_take (i := 5) (v := x7) rfl (by kernel_rfl) (by kernel_rfl) (by kernel_rfl) (fun _ _ _ h => h) (Or.inl ⟨by kernel_rfl, ?_⟩) ?_
      · intro w; go_simp <;> first | omega | (intro hh; exfalso; omega)
      refine wpAny_ready (rs := [6, 7]) (by kernel_rfl) (by simp) ?_
      refine AllReady.cons rfl (fun K hK => ?_) (AllReady.cons rfl (fun K hK => ?_) AllReady.nil)
      · go_simp
        go_at_call 15
        refine (T1.out w13 hb13).mono ?_
        rintro e w14 ⟨rfl, hb14⟩
        refine hK _ _ ?_
        clear hK K
        refine wpAny_ready (rs := [7]) (by kernel_rfl) (by simp) ?_
        refine AllReady.cons rfl (fun K hK => ?_) AllReady.nil
        have k0 : w14.cell? ⟨w9.heap.size, 0, none⟩ = some (.bool sb) := (KR.out w14 hb14).cell 0
        have k1 : w14.cell? ⟨w9.heap.size, 1, none⟩ = some (.slice A1 m1 q1) := (KR.out w14 hb14).cell 1
        have k2 : w14.cell? ⟨w9.heap.size, 2, none⟩ = some (.slice A2 m2 q2) := (KR.out w14 hb14).cell 2
        go_simp
        refine hK _ _ ?_
        clear hK K k0 k1 k2
        refine wpAny_ready (rs := [8]) (by kernel_rfl) (by simp) ?_
        refine AllReady.cons rfl (fun K hK => ?_) AllReady.nil
        go_simp
        go_at_call 16
        refine (T2.out w14 hb14).mono ?_
        rintro e w15 ⟨rfl, hb15⟩
        refine hK _ _ ?_
        clear hK K
        refine wpAny_take (i := 9) (v := .bool true) rfl (by kernel_rfl) (by kernel_rfl) (by kernel_rfl) (fun _ _ _ h => h) (Or.inl ⟨by kernel_rfl, ?_⟩) ?_
        · intro w; go_simp <;> first | omega | (intro hh; exfalso; omega)
        refine wpAny_take (i := 10) (v := .bool true) rfl (by kernel_rfl) (by kernel_rfl) (by kernel_rfl) (fun _ _ _ h => h) (Or.inl ⟨by kernel_rfl, ?_⟩) ?_
        · intro w; go_simp <;> first | omega | (intro hh; exfalso; omega)
        refine wpAny_take (i := 11) (v := .bool true) rfl (by kernel_rfl) (by kernel_rfl) (by kernel_rfl) (fun _ _ _ h => h) (Or.inl ⟨by kernel_rfl, ?_⟩) ?_
        · intro w; go_simp <;> first | omega | (intro hh; exfalso; omega)
        refine wpAny_take (i := 12) (v := x7) rfl (by kernel_rfl) (by kernel_rfl) (by kernel_rfl) (fun _ _ _ h => h) (Or.inl ⟨by kernel_rfl, ?_⟩) ?_
        · intro w; go_simp <;> first | omega | (intro hh; exfalso; omega)
        refine wpAny_ready (rs := [13]) (by kernel_rfl) (by simp) ?_
        refine AllReady.cons rfl (fun K hK => ?_) AllReady.nil
        go_simp
        go_at_call 15
        refine (T1.out w15 hb15).mono ?_
        rintro e w16 ⟨rfl, hb16⟩
        refine hK _ _ ?_
        clear hK K
        refine wpAny_take (i := 14) (v := .int .i64 (St.length : Int)) rfl (by kernel_rfl) (by kernel_rfl) (by kernel_rfl) (fun _ _ _ h => h) (Or.inl ⟨by kernel_rfl, ?_⟩) ?_
        · intro w; go_simp <;> first | omega | (intro hh; exfalso; omega)
        refine wpAny_take (i := 15) (v := .bool false) rfl (by kernel_rfl) (by kernel_rfl) (by kernel_rfl) (fun _ _ _ h => h) (Or.inl ⟨by kernel_rfl, ?_⟩) ?_
        · intro w; go_simp <;> first | omega | (intro hh; exfalso; omega)
        refine wpAny_take (i := 16) (v := .bool false) rfl (by kernel_rfl) (by kernel_rfl) (by kernel_rfl) (fun _ _ _ h => h) (Or.inl ⟨by kernel_rfl, ?_⟩) ?_
        · intro w; go_simp <;> first | omega | (intro hh; exfalso; omega)
        refine wpAny_take (i := 17) (v := .bool true) rfl (by kernel_rfl) (by kernel_rfl) (by kernel_rfl) (fun _ _ _ h => h) (Or.inl ⟨by kernel_rfl, ?_⟩) ?_
        · intro w; go_simp <;> first | omega | (intro hh; exfalso; omega)
        refine wpAny_take (i := 18) (v := .bool true) rfl (by kernel_rfl) (by kernel_rfl) (by kernel_rfl) (fun _ _ _ h => h) (Or.inl ⟨by kernel_rfl, ?_⟩) ?_
        · intro w; go_simp <;> first | omega | (intro hh; exfalso; omega)
        refine wpAny_take (i := 19) (v := x12) rfl (by kernel_rfl) (by kernel_rfl) (by kernel_rfl) (fun _ _ _ h => h) (Or.inl ⟨by kernel_rfl, ?_⟩) ?_
        · intro w; go_simp <;> first | omega | (intro hh; exfalso; omega)
        refine wpAny_take (i := 20) (v := x7) rfl (by kernel_rfl) (by kernel_rfl) (by kernel_rfl) (fun _ _ _ h => h) (Or.inl ⟨by kernel_rfl, ?_⟩) ?_
        · intro w; go_simp <;> first | omega | (intro hh; exfalso; omega)
        refine wpAny_ready (rs := [21]) (by kernel_rfl) (by simp) ?_
        refine AllReady.cons rfl (fun K hK => ?_) AllReady.nil
        go_simp
        go_at_call 29
        refine (M2.out w16 hb16).mono ?_
        rintro e w17 ⟨rfl, hb17⟩
        refine hK _ _ ?_
        clear hK K
        refine wpAny_take (i := 22) (v := .bool true) rfl (by kernel_rfl) (by kernel_rfl) (by kernel_rfl) (fun _ _ _ h => h) (Or.inl ⟨by kernel_rfl, ?_⟩) ?_
        · intro w; go_simp <;> first | omega | (intro hh; exfalso; omega)
        refine wpAny_take (i := 23) (v := .bool true) rfl (by kernel_rfl) (by kernel_rfl) (by kernel_rfl) (fun _ _ _ h => h) (Or.inl ⟨by kernel_rfl, ?_⟩) ?_
        · intro w; go_simp <;> first | omega | (intro hh; exfalso; omega)
        refine wpAny_take (i := 24) (v := .bool true) rfl (by kernel_rfl) (by kernel_rfl) (by kernel_rfl) (fun _ _ _ h => h) (Or.inl ⟨by kernel_rfl, ?_⟩) ?_
        · intro w; go_simp <;> first | omega | (intro hh; exfalso; omega)
        refine wpAny_take (i := 25) (v := .bool true) rfl (by kernel_rfl) (by kernel_rfl) (by kernel_rfl) (fun _ _ _ h => h) (Or.inl ⟨by kernel_rfl, ?_⟩) ?_
        · intro w; go_simp <;> first | omega | (intro hh; exfalso; omega)
        refine wpAny_take (i := 26) (v := .bool true) rfl (by kernel_rfl) (by kernel_rfl) (by kernel_rfl) (fun _ _ _ h => h) (Or.inl ⟨by kernel_rfl, ?_⟩) ?_
        · intro w; go_simp <;> first | omega | (intro hh; exfalso; omega)
        refine wpAny_done (by kernel_rfl) ?_ _
        go_wp2_with fail
        go_ret
        exact ⟨by kernel_rfl, below_seq B2 (below_seq z12 hb17)⟩
      · have k0 : w13.cell? ⟨w9.heap.size, 0, none⟩ = some (.bool sb) := (KR.out w13 hb13).cell 0
        have k1 : w13.cell? ⟨w9.heap.size, 1, none⟩ = some (.slice A1 m1 q1) := (KR.out w13 hb13).cell 1
        have k2 : w13.cell? ⟨w9.heap.size, 2, none⟩ = some (.slice A2 m2 q2) := (KR.out w13 hb13).cell 2
        go_simp
        refine hK _ _ ?_
        clear hK K k0 k1 k2
        refine wpAny_ready (rs := [6]) (by kernel_rfl) (by simp) ?_
        refine AllReady.cons rfl (fun K hK => ?_) AllReady.nil
        go_simp
        go_at_call 15
        refine (T1.out w13 hb13).mono ?_
        rintro e w14 ⟨rfl, hb14⟩
        refine hK _ _ ?_
        clear hK K
        refine wpAny_ready (rs := [8]) (by kernel_rfl) (by simp) ?_
        refine AllReady.cons rfl (fun K hK => ?_) AllReady.nil
        go_simp
        go_at_call 16
        refine (T2.out w14 hb14).mono ?_
        rintro e w15 ⟨rfl, hb15⟩
        refine hK _ _ ?_
        clear hK K
        refine wpAny_take (i := 9) (v := .bool true) rfl (by kernel_rfl) (by kernel_rfl) (by kernel_rfl) (fun _ _ _ h => h) (Or.inl ⟨by kernel_rfl, ?_⟩) ?_
        · intro w; go_simp <;> first | omega | (intro hh; exfalso; omega)
        refine wpAny_take (i := 10) (v := .bool true) rfl (by kernel_rfl) (by kernel_rfl) (by kernel_rfl) (fun _ _ _ h => h) (Or.inl ⟨by kernel_rfl, ?_⟩) ?_
        · intro w; go_simp <;> first | omega | (intro hh; exfalso; omega)
        refine wpAny_take (i := 11) (v := .bool true) rfl (by kernel_rfl) (by kernel_rfl) (by kernel_rfl) (fun _ _ _ h => h) (Or.inl ⟨by kernel_rfl, ?_⟩) ?_
        · intro w; go_simp <;> first | omega | (intro hh; exfalso; omega)
        refine wpAny_take (i := 12) (v := x7) rfl (by kernel_rfl) (by kernel_rfl) (by kernel_rfl) (fun _ _ _ h => h) (Or.inl ⟨by kernel_rfl, ?_⟩) ?_
        · intro w; go_simp <;> first | omega | (intro hh; exfalso; omega)
        refine wpAny_ready (rs := [13]) (by kernel_rfl) (by simp) ?_
        refine AllReady.cons rfl (fun K hK => ?_) AllReady.nil
        go_simp
        go_at_call 15
        refine (T1.out w15 hb15).mono ?_
        rintro e w16 ⟨rfl, hb16⟩
        refine hK _ _ ?_
        clear hK K
        refine wpAny_take (i := 14) (v := .int .i64 (St.length : Int)) rfl (by kernel_rfl) (by kernel_rfl) (by kernel_rfl) (fun _ _ _ h => h) (Or.inl ⟨by kernel_rfl, ?_⟩) ?_
        · intro w; go_simp <;> first | omega | (intro hh; exfalso; omega)
        refine wpAny_take (i := 15) (v := .bool false) rfl (by kernel_rfl) (by kernel_rfl) (by kernel_rfl) (fun _ _ _ h => h) (Or.inl ⟨by kernel_rfl, ?_⟩) ?_
        · intro w; go_simp <;> first | omega | (intro hh; exfalso; omega)
        refine wpAny_take (i := 16) (v := .bool false) rfl (by kernel_rfl) (by kernel_rfl) (by kernel_rfl) (fun _ _ _ h => h) (Or.inl ⟨by kernel_rfl, ?_⟩) ?_
        · intro w; go_simp <;> first | omega | (intro hh; exfalso; omega)
        refine wpAny_take (i := 17) (v := .bool true) rfl (by kernel_rfl) (by kernel_rfl) (by kernel_rfl) (fun _ _ _ h => h) (Or.inl ⟨by kernel_rfl, ?_⟩) ?_
        · intro w; go_simp <;> first | omega | (intro hh; exfalso; omega)
        refine wpAny_take (i := 18) (v := .bool true) rfl (by kernel_rfl) (by kernel_rfl) (by kernel_rfl) (fun _ _ _ h => h) (Or.inl ⟨by kernel_rfl, ?_⟩) ?_
        · intro w; go_simp <;> first | omega | (intro hh; exfalso; omega)
        refine wpAny_take (i := 19) (v := x12) rfl (by kernel_rfl) (by kernel_rfl) (by kernel_rfl) (fun _ _ _ h => h) (Or.inl ⟨by kernel_rfl, ?_⟩) ?_
        · intro w; go_simp <;> first | omega | (intro hh; exfalso; omega)
        refine wpAny_take (i := 20) (v := x7) rfl (by kernel_rfl) (by kernel_rfl) (by kernel_rfl) (fun _ _ _ h => h) (Or.inl ⟨by kernel_rfl, ?_⟩) ?_
        · intro w; go_simp <;> first | omega | (intro hh; exfalso; omega)
        refine wpAny_ready (rs := [21]) (by kernel_rfl) (by simp) ?_
        refine AllReady.cons rfl (fun K hK => ?_) AllReady.nil
        go_simp
        go_at_call 29
        refine (M2.out w16 hb16).mono ?_
        rintro e w17 ⟨rfl, hb17⟩
        refine hK _ _ ?_
        clear hK K
        refine wpAny_take (i := 22) (v := .bool true) rfl (by kernel_rfl) (by kernel_rfl) (by kernel_rfl) (fun _ _ _ h => h) (Or.inl ⟨by kernel_rfl, ?_⟩) ?_
        · intro w; go_simp <;> first | omega | (intro hh; exfalso; omega)
        refine wpAny_take (i := 23) (v := .bool true) rfl (by kernel_rfl) (by kernel_rfl) (by kernel_rfl) (fun _ _ _ h => h) (Or.inl ⟨by kernel_rfl, ?_⟩) ?_
        · intro w; go_simp <;> first | omega | (intro hh; exfalso; omega)
        refine wpAny_take (i := 24) (v := .bool true) rfl (by kernel_rfl) (by kernel_rfl) (by kernel_rfl) (fun _ _ _ h => h) (Or.inl ⟨by kernel_rfl, ?_⟩) ?_
        · intro w; go_simp <;> first | omega | (intro hh; exfalso; omega)
        refine wpAny_take (i := 25) (v := .bool true) rfl (by kernel_rfl) (by kernel_rfl) (by kernel_rfl) (fun _ _ _ h => h) (Or.inl ⟨by kernel_rfl, ?_⟩) ?_
        · intro w; go_simp <;> first | omega | (intro hh; exfalso; omega)
        refine wpAny_take (i := 26) (v := .bool true) rfl (by kernel_rfl) (by kernel_rfl) (by kernel_rfl) (fun _ _ _ h => h) (Or.inl ⟨by kernel_rfl, ?_⟩) ?_
        · intro w; go_simp <;> first | omega | (intro hh; exfalso; omega)
        refine wpAny_done (by kernel_rfl) ?_ _
        go_wp2_with fail
        go_ret
        exact ⟨by kernel_rfl, below_seq B2 (below_seq z12 hb17)⟩
    · have C12 := Lib.hid (CLN.out (by omega) w11)
      have hd40 : decide ((40 : Int) < (St.length : Int)) = true := decide_eq_true (by omega)
      clear CLY CLN
      go_wp2_with fail
      go_at_call 27
      refine C12.out.mono ?_
      rintro e w12 ⟨rfl, hb12⟩
      have y12 := below_seq hb11 hb12
      have z12 := below_seq z11 hb12
      have KA : Hid (∀ W, Below w12.heap.size w12 W → FracPtr W x7 Q) := Lib.hid fun W h => HA10.out.keep (below_seq y12 h)
      have KB : Hid (∀ W, Below w12.heap.size w12 W → FracPtr W x8 Q) := Lib.hid fun W h => HB10.out.keep (below_seq y12 h)
      have KR : Hid (∀ W, Below w12.heap.size w12 W → Row W w9.heap.size 30 #[.bool sb, .slice A1 m1 q1, .slice A2 m2 q2]) := Lib.hid fun W h => Row.keep HR10.out (below_seq y12 h)
      have KQ : Hid (∀ W, Below w12.heap.size w12 W → RefQ W (.agg #[.bool sb, .slice A1 m1 q1, .slice A2 m2 q2]) sb N1 D1) := Lib.hid fun W h => HQ10.out.keep (below_seq y12 h)
      have T1 : Hid (∀ W, Below w12.heap.size w12 W → Calls Tryz.prog 15 #[x7] W (fun e w' => e = .returned (.string ⟨St.toArray⟩) ∧ Below w12.heap.size w12 w')) := Lib.hid fun W h => by
        refine (CTA.out W x7 (below_seq z12 h) (KA.out W h)).mono ?_
        rintro e w' ⟨rfl, hb⟩
        exact ⟨rfl, below_seq h hb⟩
      have T2 : Hid (∀ W, Below w12.heap.size w12 W → Calls Tryz.prog 16 #[.agg #[.bool sb, .slice A1 m1 q1, .slice A2 m2 q2]] W (fun e w' => e = .returned (.string ⟨St.toArray⟩) ∧ Below w12.heap.size w12 w')) := Lib.hid fun W h => by
        refine (CTQ.out W _ (KQ.out W h)).mono ?_
        rintro e w' ⟨rfl, hb⟩
        exact ⟨rfl, below_seq h hb⟩
      have M1 : Hid (∀ W, Below w12.heap.size w12 W → Calls Tryz.prog 29 #[x7, x8] W (fun e w' => e = .returned (.int .i64 0) ∧ Below w12.heap.size w12 w')) := Lib.hid fun W h => by
        refine (CCM.out W x7 x8 (KA.out W h) (KB.out W h)).mono ?_
        rintro e w' ⟨rfl, hb⟩
        exact ⟨rfl, below_seq h hb⟩
      have hbe : (St == St) = true := beq_self_eq_true St
      clear hb11 hb12 y12 z11 z10 C12 HA10 HB10 HQ10 HR10 CTA CTQ CCM KA KB KQ
      go_wp2_with fail
      refine wp_region_any (by kernel_rfl) ?_
      change wpAny _ _ _ _ _ _ _ (World.drew _)
      obtain ⟨W0, hW0⟩ : ∃ W0, W0 = w12.drew := ⟨_, rfl⟩
      rw [← hW0]
      have z0 : Below w12.heap.size w12 W0 := by rw [hW0]; exact Below.drewN_ (Below.refl _ _) 1
      clear hW0
      refine wpAny_take (i := 0) (v := x7) rfl (by kernel_rfl) (by kernel_rfl) (by kernel_rfl) (fun _ _ _ h => h) (Or.inl ⟨by kernel_rfl, ?_⟩) ?_
      · intro w; go_simp <;> first | omega | (intro hh; exfalso; omega)
      refine wpAny_take (i := 1) (v := x8) rfl (by kernel_rfl) (by kernel_rfl) (by kernel_rfl) (fun _ _ _ h => h) (Or.inl ⟨by kernel_rfl, ?_⟩) ?_
      · intro w; go_simp <;> first | omega | (intro hh; exfalso; omega)
      refine wpAny_ready (rs := [2]) (by kernel_rfl) (by simp) ?_
      refine AllReady.cons rfl (fun K hK => ?_) AllReady.nil
      go_simp
      go_at_call 29
      refine (M1.out _ z0).mono ?_
      rintro e w13 ⟨rfl, hb13⟩
      refine hK _ _ ?_
      clear hK K
      refine wpAny_take (i := 3) (v := .bool true) rfl (by kernel_rfl) (by kernel_rfl) (by kernel_rfl) (fun _ _ _ h => h) (Or.inl ⟨by kernel_rfl, ?_⟩) ?_
      · intro w; go_simp <;> first | omega | (intro hh; exfalso; omega)
      refine wpAny_take (i := 4) (v := .bool true) rfl (by kernel_rfl) (by kernel_rfl) (by kernel_rfl) (fun _ _ _ h => h) (Or.inl ⟨by kernel_rfl, ?_⟩) ?_
      · intro w; go_simp <;> first | omega | (intro hh; exfalso; omega)
      refine wpAny_take (i := 5) (v := x7) rfl (by kernel_rfl) (by kernel_rfl) (by kernel_rfl) (fun _ _ _ h => h) (Or.inl ⟨by kernel_rfl, ?_⟩) ?_
      · intro w; go_simp <;> first | omega | (intro hh; exfalso; omega)
      refine wpAny_ready (rs := [6, 7]) (by kernel_rfl) (by simp) ?_
      refine AllReady.cons rfl (fun K hK => ?_) (AllReady.cons rfl (fun K hK => ?_) AllReady.nil)
      · go_simp
        go_at_call 15
        refine (T1.out w13 hb13).mono ?_
        rintro e w14 ⟨rfl, hb14⟩
        refine hK _ _ ?_
        clear hK K
        refine wpAny_ready (rs := [7]) (by kernel_rfl) (by simp) ?_
        refine AllReady.cons rfl (fun K hK => ?_) AllReady.nil
        have k0 : w14.cell? ⟨w9.heap.size, 0, none⟩ = some (.bool sb) := (KR.out w14 hb14).cell 0
        have k1 : w14.cell? ⟨w9.heap.size, 1, none⟩ = some (.slice A1 m1 q1) := (KR.out w14 hb14).cell 1
        have k2 : w14.cell? ⟨w9.heap.size, 2, none⟩ = some (.slice A2 m2 q2) := (KR.out w14 hb14).cell 2
        go_simp
        refine hK _ _ ?_
        clear hK K k0 k1 k2
        refine wpAny_ready (rs := [8]) (by kernel_rfl) (by simp) ?_
        refine AllReady.cons rfl (fun K hK => ?_) AllReady.nil
        go_simp
        go_at_call 16
        refine (T2.out w14 hb14).mono ?_
        rintro e w15 ⟨rfl, hb15⟩
        refine hK _ _ ?_
        clear hK K
        refine wpAny_take (i := 9) (v := .bool true) rfl (by kernel_rfl) (by kernel_rfl) (by kernel_rfl) (fun _ _ _ h => h) (Or.inl ⟨by kernel_rfl, ?_⟩) ?_
        · intro w; go_simp <;> first | omega | (intro hh; exfalso; omega)
        refine wpAny_take (i := 10) (v := .bool true) rfl (by kernel_rfl) (by kernel_rfl) (by kernel_rfl) (fun _ _ _ h => h) (Or.inl ⟨by kernel_rfl, ?_⟩) ?_
        · intro w; go_simp <;> first | omega | (intro hh; exfalso; omega)
        refine wpAny_take (i := 11) (v := .bool true) rfl (by kernel_rfl) (by kernel_rfl) (by kernel_rfl) (fun _ _ _ h => h) (Or.inl ⟨by kernel_rfl, ?_⟩) ?_
        · intro w; go_simp <;> first | omega | (intro hh; exfalso; omega)
        refine wpAny_take (i := 12) (v := x7) rfl (by kernel_rfl) (by kernel_rfl) (by kernel_rfl) (fun _ _ _ h => h) (Or.inl ⟨by kernel_rfl, ?_⟩) ?_
        · intro w; go_simp <;> first | omega | (intro hh; exfalso; omega)
        refine wpAny_ready (rs := [13]) (by kernel_rfl) (by simp) ?_
        refine AllReady.cons rfl (fun K hK => ?_) AllReady.nil
        go_simp
        go_at_call 15
        refine (T1.out w15 hb15).mono ?_
        rintro e w16 ⟨rfl, hb16⟩
        refine hK _ _ ?_
        clear hK K
        refine wpAny_take (i := 14) (v := .int .i64 (St.length : Int)) rfl (by kernel_rfl) (by kernel_rfl) (by kernel_rfl) (fun _ _ _ h => h) (Or.inl ⟨by kernel_rfl, ?_⟩) ?_
        · intro w; go_simp <;> first | omega | (intro hh; exfalso; omega)
        refine wpAny_take (i := 15) (v := .bool true) rfl (by kernel_rfl) (by kernel_rfl) (by kernel_rfl) (fun _ _ _ h => h) (Or.inl ⟨by kernel_rfl, ?_⟩) ?_
        · intro w; go_simp <;> first | omega | (intro hh; exfalso; omega)
        refine wpAny_take (i := 16) (v := .bool true) rfl (by kernel_rfl) (by kernel_rfl) (by kernel_rfl) (fun _ _ _ h => h) (Or.inl ⟨by kernel_rfl, ?_⟩) ?_
        · intro w; go_simp <;> first | omega | (intro hh; exfalso; omega)
        refine wpAny_take (i := 17) (v := undef) rfl (by kernel_rfl) (by kernel_rfl) (by kernel_rfl) (fun _ _ _ h => h) (Or.inr ⟨by kernel_rfl, rfl⟩) ?_
        refine wpAny_take (i := 18) (v := undef) rfl (by kernel_rfl) (by kernel_rfl) (by kernel_rfl) (fun _ _ _ h => h) (Or.inr ⟨by kernel_rfl, rfl⟩) ?_
        refine wpAny_take (i := 19) (v := undef) rfl (by kernel_rfl) (by kernel_rfl) (by kernel_rfl) (fun _ _ _ h => h) (Or.inr ⟨by kernel_rfl, rfl⟩) ?_
        refine wpAny_take (i := 20) (v := undef) rfl (by kernel_rfl) (by kernel_rfl) (by kernel_rfl) (fun _ _ _ h => h) (Or.inr ⟨by kernel_rfl, rfl⟩) ?_
        refine wpAny_take (i := 21) (v := undef) rfl (by kernel_rfl) (by kernel_rfl) (by kernel_rfl) (fun _ _ _ h => h) (Or.inr ⟨by kernel_rfl, rfl⟩) ?_
        refine wpAny_take (i := 22) (v := undef) rfl (by kernel_rfl) (by kernel_rfl) (by kernel_rfl) (fun _ _ _ h => h) (Or.inr ⟨by kernel_rfl, rfl⟩) ?_
        refine wpAny_take (i := 23) (v := undef) rfl (by kernel_rfl) (by kernel_rfl) (by kernel_rfl) (fun _ _ _ h => h) (Or.inr ⟨by kernel_rfl, rfl⟩) ?_
        refine wpAny_take (i := 24) (v := .bool true) rfl (by kernel_rfl) (by kernel_rfl) (by kernel_rfl) (fun _ _ _ h => h) (Or.inl ⟨by kernel_rfl, ?_⟩) ?_
        · intro w; go_simp <;> first | omega | (intro hh; exfalso; omega)
        refine wpAny_take (i := 25) (v := .bool true) rfl (by kernel_rfl) (by kernel_rfl) (by kernel_rfl) (fun _ _ _ h => h) (Or.inl ⟨by kernel_rfl, ?_⟩) ?_
        · intro w; go_simp <;> first | omega | (intro hh; exfalso; omega)
        refine wpAny_take (i := 26) (v := .bool true) rfl (by kernel_rfl) (by kernel_rfl) (by kernel_rfl) (fun _ _ _ h => h) (Or.inl ⟨by kernel_rfl, ?_⟩) ?_
        · intro w; go_simp <;> first | omega | (intro hh; exfalso; omega)
        refine wpAny_done (by kernel_rfl) ?_ _
        go_wp2_with fail
        go_ret
        exact ⟨by kernel_rfl, below_seq B2 (below_seq z12 hb16)⟩
      · have k0 : w13.cell? ⟨w9.heap.size, 0, none⟩ = some (.bool sb) := (KR.out w13 hb13).cell 0
        have k1 : w13.cell? ⟨w9.heap.size, 1, none⟩ = some (.slice A1 m1 q1) := (KR.out w13 hb13).cell 1
        have k2 : w13.cell? ⟨w9.heap.size, 2, none⟩ = some (.slice A2 m2 q2) := (KR.out w13 hb13).cell 2
        go_simp
        refine hK _ _ ?_
        clear hK K k0 k1 k2
        refine wpAny_ready (rs := [6]) (by kernel_rfl) (by simp) ?_
        refine AllReady.cons rfl (fun K hK => ?_) AllReady.nil
        go_simp
        go_at_call 15
        refine (T1.out w13 hb13).mono ?_
        rintro e w14 ⟨rfl, hb14⟩
        refine hK _ _ ?_
        clear hK K
        refine wpAny_ready (rs := [8]) (by kernel_rfl) (by simp) ?_
        refine AllReady.cons rfl (fun K hK => ?_) AllReady.nil
        go_simp
        go_at_call 16
        refine (T2.out w14 hb14).mono ?_
        rintro e w15 ⟨rfl, hb15⟩
        refine hK _ _ ?_
        clear hK K
        refine wpAny_take (i := 9) (v := .bool true) rfl (by kernel_rfl) (by kernel_rfl) (by kernel_rfl) (fun _ _ _ h => h) (Or.inl ⟨by kernel_rfl, ?_⟩) ?_
        · intro w; go_simp <;> first | omega | (intro hh; exfalso; omega)
        refine wpAny_take (i := 10) (v := .bool true) rfl (by kernel_rfl) (by kernel_rfl) (by kernel_rfl) (fun _ _ _ h => h) (Or.inl ⟨by kernel_rfl, ?_⟩) ?_
        · intro w; go_simp <;> first | omega | (intro hh; exfalso; omega)
        refine wpAny_take (i := 11) (v := .bool true) rfl (by kernel_rfl) (by kernel_rfl) (by kernel_rfl) (fun _ _ _ h => h) (Or.inl ⟨by kernel_rfl, ?_⟩) ?_
        · intro w; go_simp <;> first | omega | (intro hh; exfalso; omega)
        refine wpAny_take (i := 12) (v := x7) rfl (by kernel_rfl) (by kernel_rfl) (by kernel_rfl) (fun _ _ _ h => h) (Or.inl ⟨by kernel_rfl, ?_⟩) ?_
        · intro w; go_simp <;> first | omega | (intro hh; exfalso; omega)
        refine wpAny_ready (rs := [13]) (by kernel_rfl) (by simp) ?_
        refine AllReady.cons rfl (fun K hK => ?_) AllReady.nil
        go_simp
        go_at_call 15
        refine (T1.out w15 hb15).mono ?_
        rintro e w16 ⟨rfl, hb16⟩
        refine hK _ _ ?_
        clear hK K
        refine wpAny_take (i := 14) (v := .int .i64 (St.length : Int)) rfl (by kernel_rfl) (by kernel_rfl) (by kernel_rfl) (fun _ _ _ h => h) (Or.inl ⟨by kernel_rfl, ?_⟩) ?_
        · intro w; go_simp <;> first | omega | (intro hh; exfalso; omega)
        refine wpAny_take (i := 15) (v := .bool true) rfl (by kernel_rfl) (by kernel_rfl) (by kernel_rfl) (fun _ _ _ h => h) (Or.inl ⟨by kernel_rfl, ?_⟩) ?_
        · intro w; go_simp <;> first | omega | (intro hh; exfalso; omega)
        refine wpAny_take (i := 16) (v := .bool true) rfl (by kernel_rfl) (by kernel_rfl) (by kernel_rfl) (fun _ _ _ h => h) (Or.inl ⟨by kernel_rfl, ?_⟩) ?_
        · intro w; go_simp <;> first | omega | (intro hh; exfalso; omega)
        refine wpAny_take (i := 17) (v := undef) rfl (by kernel_rfl) (by kernel_rfl) (by kernel_rfl) (fun _ _ _ h => h) (Or.inr ⟨by kernel_rfl, rfl⟩) ?_
        refine wpAny_take (i := 18) (v := undef) rfl (by kernel_rfl) (by kernel_rfl) (by kernel_rfl) (fun _ _ _ h => h) (Or.inr ⟨by kernel_rfl, rfl⟩) ?_
        refine wpAny_take (i := 19) (v := undef) rfl (by kernel_rfl) (by kernel_rfl) (by kernel_rfl) (fun _ _ _ h => h) (Or.inr ⟨by kernel_rfl, rfl⟩) ?_
        refine wpAny_take (i := 20) (v := undef) rfl (by kernel_rfl) (by kernel_rfl) (by kernel_rfl) (fun _ _ _ h => h) (Or.inr ⟨by kernel_rfl, rfl⟩) ?_
        refine wpAny_take (i := 21) (v := undef) rfl (by kernel_rfl) (by kernel_rfl) (by kernel_rfl) (fun _ _ _ h => h) (Or.inr ⟨by kernel_rfl, rfl⟩) ?_
        refine wpAny_take (i := 22) (v := undef) rfl (by kernel_rfl) (by kernel_rfl) (by kernel_rfl) (fun _ _ _ h => h) (Or.inr ⟨by kernel_rfl, rfl⟩) ?_
        refine wpAny_take (i := 23) (v := undef) rfl (by kernel_rfl) (by kernel_rfl) (by kernel_rfl) (fun _ _ _ h => h) (Or.inr ⟨by kernel_rfl, rfl⟩) ?_
        refine wpAny_take (i := 24) (v := .bool true) rfl (by kernel_rfl) (by kernel_rfl) (by kernel_rfl) (fun _ _ _ h => h) (Or.inl ⟨by kernel_rfl, ?_⟩) ?_
        · intro w; go_simp <;> first | omega | (intro hh; exfalso; omega)
        refine wpAny_take (i := 25) (v := .bool true) rfl (by kernel_rfl) (by kernel_rfl) (by kernel_rfl) (fun _ _ _ h => h) (Or.inl ⟨by kernel_rfl, ?_⟩) ?_
        · intro w; go_simp <;> first | omega | (intro hh; exfalso; omega)
        refine wpAny_take (i := 26) (v := .bool true) rfl (by kernel_rfl) (by kernel_rfl) (by kernel_rfl) (fun _ _ _ h => h) (Or.inl ⟨by kernel_rfl, ?_⟩) ?_
        · intro w; go_simp <;> first | omega | (intro hh; exfalso; omega)
        refine wpAny_done (by kernel_rfl) ?_ _
        go_wp2_with fail
        go_ret
        exact ⟨by kernel_rfl, below_seq B2 (below_seq z12 hb16)⟩
  · change (⟨#[45]⟩ ++ ⟨A.toArray⟩ : ByteArray) = ⟨X1.toArray⟩ at c1
    change (⟨#[45]⟩ ++ ⟨d.toArray⟩ : ByteArray) = ⟨Y1.toArray⟩ at c6
    go_wp2_with fail
    refine wp_region_any (by kernel_rfl) ?_
    change wpAny _ _ _ _ _ _ _ (World.drew _)
    obtain ⟨W0, hW0⟩ : ∃ W0, W0 = w2.drew := ⟨_, rfl⟩
    rw [← hW0]
    have z0 : Below w2.heap.size w2 W0 := by rw [hW0]; exact Below.drewN_ (Below.refl _ _) 1
    clear hW0
    refine wpAny_take (i := 0) (v := .string ⟨#[45]⟩) rfl (by kernel_rfl) (by kernel_rfl) (by kernel_rfl) (fun _ _ _ h => h) (Or.inl ⟨by kernel_rfl, ?_⟩) ?_
    · intro w; go_simp <;> first | omega | (intro hh; exfalso; omega)
    refine wpAny_take (i := 1) (v := .string ⟨d.toArray⟩) rfl (by kernel_rfl) (by kernel_rfl) (by kernel_rfl) (fun _ _ _ h => h) (Or.inl ⟨by kernel_rfl, ?_⟩) ?_
    · intro w; go_simp <;> first | omega | (intro hh; exfalso; omega)
    refine wpAny_take (i := 2) (v := .int .i64 k) rfl (by kernel_rfl) (by kernel_rfl) (by kernel_rfl) (fun _ _ _ h => h) (Or.inl ⟨by kernel_rfl, ?_⟩) ?_
    · intro w; go_simp <;> first | omega | (intro hh; exfalso; omega)
    refine wpAny_take (i := 3) (v := .string ⟨A.toArray⟩) rfl (by kernel_rfl) (by kernel_rfl) (by kernel_rfl) (fun _ _ _ h => h) (Or.inl ⟨by kernel_rfl, ?_⟩) ?_
    · intro w; go_simp <;> first | omega | (intro hh; exfalso; omega)
    refine wpAny_take (i := 4) (v := .string ⟨X1.toArray⟩) rfl (by kernel_rfl) (by kernel_rfl) (by kernel_rfl) (fun _ _ _ h => h) (Or.inl ⟨by kernel_rfl, ?_⟩) ?_
    · intro w; go_simp <;> first | omega | (intro hh; exfalso; omega)
    refine wpAny_take (i := 5) (v := .string ⟨X2.toArray⟩) rfl (by kernel_rfl) (by kernel_rfl) (by kernel_rfl) (fun _ _ _ h => h) (Or.inl ⟨by kernel_rfl, ?_⟩) ?_
    · intro w; go_simp <;> first | omega | (intro hh; exfalso; omega)
    refine wpAny_take (i := 6) (v := .string ⟨d.toArray⟩) rfl (by kernel_rfl) (by kernel_rfl) (by kernel_rfl) (fun _ _ _ h => h) (Or.inl ⟨by kernel_rfl, ?_⟩) ?_
    · intro w; go_simp <;> first | omega | (intro hh; exfalso; omega)
    refine wpAny_take (i := 7) (v := .int .i64 k) rfl (by kernel_rfl) (by kernel_rfl) (by kernel_rfl) (fun _ _ _ h => h) (Or.inl ⟨by kernel_rfl, ?_⟩) ?_
    · intro w; go_simp <;> first | omega | (intro hh; exfalso; omega)
    refine wpAny_take (i := 8) (v := .string ⟨B.toArray⟩) rfl (by kernel_rfl) (by kernel_rfl) (by kernel_rfl) (fun _ _ _ h => h) (Or.inl ⟨by kernel_rfl, ?_⟩) ?_
    · intro w; go_simp <;> first | omega | (intro hh; exfalso; omega)
    refine wpAny_take (i := 9) (v := .string ⟨X3.toArray⟩) rfl (by kernel_rfl) (by kernel_rfl) (by kernel_rfl) (fun _ _ _ h => h) (Or.inl ⟨by kernel_rfl, ?_⟩) ?_
    · intro w; go_simp <;> first | omega | (intro hh; exfalso; omega)
    refine wpAny_take (i := 10) (v := .string ⟨X4.toArray⟩) rfl (by kernel_rfl) (by kernel_rfl) (by kernel_rfl) (fun _ _ _ h => h) (Or.inl ⟨by kernel_rfl, ?_⟩) ?_
    · intro w; go_simp <;> first | omega | (intro hh; exfalso; omega)
    refine wpAny_take (i := 11) (v := .int .i64 ev) rfl (by kernel_rfl) (by kernel_rfl) (by kernel_rfl) (fun _ _ _ h => h) (Or.inl ⟨by kernel_rfl, ?_⟩) ?_
    · intro w; go_simp <;> first | omega | (intro hh; exfalso; omega)
    refine wpAny_ready (rs := [12]) (by kernel_rfl) (by simp) ?_
    refine AllReady.cons rfl (fun K hK => ?_) AllReady.nil
    go_simp
    go_at_call 18
    refine (COf.out _ ev (by omega) (by omega)).mono ?_
    rintro e w3 ⟨x3, rfl, hx3, hb3⟩
    refine hK _ _ ?_
    clear hK K
    have C3 := Lib.hid (COTE.out _ _ hx3)
    clear hx3
    refine wpAny_ready (rs := [13]) (by kernel_rfl) (by simp) ?_
    refine AllReady.cons rfl (fun K hK => ?_) AllReady.nil
    go_simp
    go_at_call 16
    refine (C3.out).mono ?_
    rintro e w4 ⟨rfl, hb4⟩
    refine hK _ _ ?_
    clear hK K
    refine wpAny_take (i := 14) (v := .string ⟨X.toArray⟩) rfl (by kernel_rfl) (by kernel_rfl) (by kernel_rfl) (fun _ _ _ h => h) (Or.inl ⟨by kernel_rfl, ?_⟩) ?_
    · intro w; go_simp <;> first | omega | (intro hh; exfalso; omega)
    refine wpAny_take (i := 15) (v := .string ⟨X.toArray⟩) rfl (by kernel_rfl) (by kernel_rfl) (by kernel_rfl) (fun _ _ _ h => h) (Or.inl ⟨by kernel_rfl, ?_⟩) ?_
    · intro w; go_simp <;> first | omega | (intro hh; exfalso; omega)
    refine wpAny_done (by kernel_rfl) ?_ _
    have z4 := below_seq z0 (below_seq hb3 hb4)
    clear C3 hb3 hb4 z0 hs1 hs2
    go_wp2_with fail
    go_at_call 18
    refine (COf.out _ f (by omega) (by omega)).mono ?_
    rintro e w5 ⟨x5, rfl, hx5, hb5⟩
    have C5 := Lib.hid (COTF.out _ _ hx5)
    clear hx5
    go_wp2_with fail
    go_at_call 16
    refine C5.out.mono ?_
    rintro e w6 ⟨rfl, hb6⟩
    have z6 := below_seq z4 (below_seq hb5 hb6)
    clear C5 hb5 hb6 z4 COTE COTF COf
    go_wp2_with fail
    go_at_call 27
    refine (CX1.out _ z6).mono ?_
    rintro e w7 ⟨x7, rfl, hx7, hb7⟩
    have z7 := below_seq z6 hb7
    have HX7 := Lib.hid hx7
    clear hx7
    go_wp2_with fail
    go_at_call 27
    refine (CY1.out _ z7).mono ?_
    rintro e w8 ⟨x8, rfl, hx8, hb8⟩
    have z8 := below_seq z7 hb8
    have HX8 := Lib.hid (hx8)
    have HXa := Lib.hid (HX7.out.keep hb8)
    clear hx8 HX7 CX1 CY1
    go_wp2_with fail
    go_at_call 28
    refine (CR1.out _).mono ?_
    rintro e w9 ⟨v9, rfl, hv9, hb9⟩
    have HQ9 := Lib.hid hv9
    obtain ⟨A1, q1, A2, q2, rfl, _, _, _⟩ := hv9.open_
    obtain ⟨m1, hm1⟩ : ∃ m1, m1 = (tdg N1).length := ⟨_, rfl⟩
    obtain ⟨m2, hm2⟩ : ∃ m2, m2 = (tdg D1).length := ⟨_, rfl⟩
    rw [← hm1, ← hm2] at HQ9 ⊢
    obtain ⟨w10, hw10⟩ : ∃ w10, w10 = w9.alloc (.cells #[.bool sb, .slice A1 m1 q1, .slice A2 m2 q2] 30) := ⟨_, rfl⟩
    have h910 : Below w9.heap.size w9 w10 := by rw [hw10]; exact (Below.refl _ _).alloc (Nat.le_refl _) _
    have HR10 := Lib.hid (show Row w10 w9.heap.size 30 #[.bool sb, .slice A1 m1 q1, .slice A2 m2 q2] by rw [hw10]; exact Row.new _ _ _)
    have y10 := below_seq hb9 h910
    have z10 := below_seq z8 y10
    have HA10 := Lib.hid (HXa.out.keep y10)
    have HB10 := Lib.hid (HX8.out.keep y10)
    have HQ10 := Lib.hid (HQ9.out.keep h910)
    have HW10 := Lib.hid hw10
    have C11 := Lib.hid (CTA.out _ _ z10 HA10.out)
    clear hw10 h910 y10 hv9 hm1 hm2 HQ9 HXa HX8 CR1 hb7 hb8 hb9 z6 z7 z8 c1 c2 c3 c4 c5 c6 c7 c8
    go_wp2_with fail
    rw [← HW10.out]
    go_at_call 15
    refine C11.out.mono ?_
    rintro e w11 ⟨rfl, hb11⟩
    have z11 := below_seq z10 hb11
    clear C11 HW10
    by_cases h40 : St.length ≤ 40
    · have C12 := Lib.hid (CLY.out h40 _ z11)
      have hd40 : decide ((40 : Int) < (St.length : Int)) = false := decide_eq_false (by omega)
      clear CLY CLN
      go_wp2_with fail
      go_at_call 27
      refine C12.out.mono ?_
      rintro e w12 ⟨x12, rfl, hx12, hb12⟩
      have y12 := below_seq hb11 hb12
      have HC := Lib.hid hx12
      have z12 := below_seq z11 hb12
      have KA : Hid (∀ W, Below w12.heap.size w12 W → FracPtr W x7 Q) := Lib.hid fun W h => HA10.out.keep (below_seq y12 h)
      have KB : Hid (∀ W, Below w12.heap.size w12 W → FracPtr W x8 Q) := Lib.hid fun W h => HB10.out.keep (below_seq y12 h)
      have KR : Hid (∀ W, Below w12.heap.size w12 W → Row W w9.heap.size 30 #[.bool sb, .slice A1 m1 q1, .slice A2 m2 q2]) := Lib.hid fun W h => Row.keep HR10.out (below_seq y12 h)
      have KQ : Hid (∀ W, Below w12.heap.size w12 W → RefQ W (.agg #[.bool sb, .slice A1 m1 q1, .slice A2 m2 q2]) sb N1 D1) := Lib.hid fun W h => HQ10.out.keep (below_seq y12 h)
      have T1 : Hid (∀ W, Below w12.heap.size w12 W → Calls Tryz.prog 15 #[x7] W (fun e w' => e = .returned (.string ⟨St.toArray⟩) ∧ Below w12.heap.size w12 w')) := Lib.hid fun W h => by
        refine (CTA.out W x7 (below_seq z12 h) (KA.out W h)).mono ?_
        rintro e w' ⟨rfl, hb⟩
        exact ⟨rfl, below_seq h hb⟩
      have T2 : Hid (∀ W, Below w12.heap.size w12 W → Calls Tryz.prog 16 #[.agg #[.bool sb, .slice A1 m1 q1, .slice A2 m2 q2]] W (fun e w' => e = .returned (.string ⟨St.toArray⟩) ∧ Below w12.heap.size w12 w')) := Lib.hid fun W h => by
        refine (CTQ.out W _ (KQ.out W h)).mono ?_
        rintro e w' ⟨rfl, hb⟩
        exact ⟨rfl, below_seq h hb⟩
      have M1 : Hid (∀ W, Below w12.heap.size w12 W → Calls Tryz.prog 29 #[x7, x8] W (fun e w' => e = .returned (.int .i64 0) ∧ Below w12.heap.size w12 w')) := Lib.hid fun W h => by
        refine (CCM.out W x7 x8 (KA.out W h) (KB.out W h)).mono ?_
        rintro e w' ⟨rfl, hb⟩
        exact ⟨rfl, below_seq h hb⟩
      have M2 : Hid (∀ W, Below w12.heap.size w12 W → Calls Tryz.prog 29 #[x12, x7] W (fun e w' => e = .returned (.int .i64 0) ∧ Below w12.heap.size w12 w')) := Lib.hid fun W h => by
        refine (CCM.out W x12 x7 (HC.out.keep h) (KA.out W h)).mono ?_
        rintro e w' ⟨rfl, hb⟩
        exact ⟨rfl, below_seq h hb⟩
      clear hx12
      have hbe : (St == St) = true := beq_self_eq_true St
      clear hb11 hb12 y12 z11 z10 C12 HA10 HB10 HQ10 HR10 CTA CTQ CCM KA KB KQ
      go_wp2_with fail
      refine wp_region_any (by kernel_rfl) ?_
      change wpAny _ _ _ _ _ _ _ (World.drew _)
      obtain ⟨W0, hW0⟩ : ∃ W0, W0 = w12.drew := ⟨_, rfl⟩
      rw [← hW0]
      have z0 : Below w12.heap.size w12 W0 := by rw [hW0]; exact Below.drewN_ (Below.refl _ _) 1
      clear hW0
      refine wpAny_take (i := 0) (v := x7) rfl (by kernel_rfl) (by kernel_rfl) (by kernel_rfl) (fun _ _ _ h => h) (Or.inl ⟨by kernel_rfl, ?_⟩) ?_
      · intro w; go_simp <;> first | omega | (intro hh; exfalso; omega)
      refine wpAny_take (i := 1) (v := x8) rfl (by kernel_rfl) (by kernel_rfl) (by kernel_rfl) (fun _ _ _ h => h) (Or.inl ⟨by kernel_rfl, ?_⟩) ?_
      · intro w; go_simp <;> first | omega | (intro hh; exfalso; omega)
      refine wpAny_ready (rs := [2]) (by kernel_rfl) (by simp) ?_
      refine AllReady.cons rfl (fun K hK => ?_) AllReady.nil
      go_simp
      go_at_call 29
      refine (M1.out _ z0).mono ?_
      rintro e w13 ⟨rfl, hb13⟩
      refine hK _ _ ?_
      clear hK K
      refine wpAny_take (i := 3) (v := .bool true) rfl (by kernel_rfl) (by kernel_rfl) (by kernel_rfl) (fun _ _ _ h => h) (Or.inl ⟨by kernel_rfl, ?_⟩) ?_
      · intro w; go_simp <;> first | omega | (intro hh; exfalso; omega)
      refine wpAny_take (i := 4) (v := .bool true) rfl (by kernel_rfl) (by kernel_rfl) (by kernel_rfl) (fun _ _ _ h => h) (Or.inl ⟨by kernel_rfl, ?_⟩) ?_
      · intro w; go_simp <;> first | omega | (intro hh; exfalso; omega)
      refine wpAny_take (i := 5) (v := x7) rfl (by kernel_rfl) (by kernel_rfl) (by kernel_rfl) (fun _ _ _ h => h) (Or.inl ⟨by kernel_rfl, ?_⟩) ?_
      · intro w; go_simp <;> first | omega | (intro hh; exfalso; omega)
      refine wpAny_ready (rs := [6, 7]) (by kernel_rfl) (by simp) ?_
      refine AllReady.cons rfl (fun K hK => ?_) (AllReady.cons rfl (fun K hK => ?_) AllReady.nil)
      · go_simp
        go_at_call 15
        refine (T1.out w13 hb13).mono ?_
        rintro e w14 ⟨rfl, hb14⟩
        refine hK _ _ ?_
        clear hK K
        refine wpAny_ready (rs := [7]) (by kernel_rfl) (by simp) ?_
        refine AllReady.cons rfl (fun K hK => ?_) AllReady.nil
        have k0 : w14.cell? ⟨w9.heap.size, 0, none⟩ = some (.bool sb) := (KR.out w14 hb14).cell 0
        have k1 : w14.cell? ⟨w9.heap.size, 1, none⟩ = some (.slice A1 m1 q1) := (KR.out w14 hb14).cell 1
        have k2 : w14.cell? ⟨w9.heap.size, 2, none⟩ = some (.slice A2 m2 q2) := (KR.out w14 hb14).cell 2
        go_simp
        refine hK _ _ ?_
        clear hK K k0 k1 k2
        refine wpAny_ready (rs := [8]) (by kernel_rfl) (by simp) ?_
        refine AllReady.cons rfl (fun K hK => ?_) AllReady.nil
        go_simp
        go_at_call 16
        refine (T2.out w14 hb14).mono ?_
        rintro e w15 ⟨rfl, hb15⟩
        refine hK _ _ ?_
        clear hK K
        refine wpAny_take (i := 9) (v := .bool true) rfl (by kernel_rfl) (by kernel_rfl) (by kernel_rfl) (fun _ _ _ h => h) (Or.inl ⟨by kernel_rfl, ?_⟩) ?_
        · intro w; go_simp <;> first | omega | (intro hh; exfalso; omega)
        refine wpAny_take (i := 10) (v := .bool true) rfl (by kernel_rfl) (by kernel_rfl) (by kernel_rfl) (fun _ _ _ h => h) (Or.inl ⟨by kernel_rfl, ?_⟩) ?_
        · intro w; go_simp <;> first | omega | (intro hh; exfalso; omega)
        refine wpAny_take (i := 11) (v := .bool true) rfl (by kernel_rfl) (by kernel_rfl) (by kernel_rfl) (fun _ _ _ h => h) (Or.inl ⟨by kernel_rfl, ?_⟩) ?_
        · intro w; go_simp <;> first | omega | (intro hh; exfalso; omega)
        refine wpAny_take (i := 12) (v := x7) rfl (by kernel_rfl) (by kernel_rfl) (by kernel_rfl) (fun _ _ _ h => h) (Or.inl ⟨by kernel_rfl, ?_⟩) ?_
        · intro w; go_simp <;> first | omega | (intro hh; exfalso; omega)
        refine wpAny_ready (rs := [13]) (by kernel_rfl) (by simp) ?_
        refine AllReady.cons rfl (fun K hK => ?_) AllReady.nil
        go_simp
        go_at_call 15
        refine (T1.out w15 hb15).mono ?_
        rintro e w16 ⟨rfl, hb16⟩
        refine hK _ _ ?_
        clear hK K
        refine wpAny_take (i := 14) (v := .int .i64 (St.length : Int)) rfl (by kernel_rfl) (by kernel_rfl) (by kernel_rfl) (fun _ _ _ h => h) (Or.inl ⟨by kernel_rfl, ?_⟩) ?_
        · intro w; go_simp <;> first | omega | (intro hh; exfalso; omega)
        refine wpAny_take (i := 15) (v := .bool false) rfl (by kernel_rfl) (by kernel_rfl) (by kernel_rfl) (fun _ _ _ h => h) (Or.inl ⟨by kernel_rfl, ?_⟩) ?_
        · intro w; go_simp <;> first | omega | (intro hh; exfalso; omega)
        refine wpAny_take (i := 16) (v := .bool false) rfl (by kernel_rfl) (by kernel_rfl) (by kernel_rfl) (fun _ _ _ h => h) (Or.inl ⟨by kernel_rfl, ?_⟩) ?_
        · intro w; go_simp <;> first | omega | (intro hh; exfalso; omega)
        refine wpAny_take (i := 17) (v := .bool true) rfl (by kernel_rfl) (by kernel_rfl) (by kernel_rfl) (fun _ _ _ h => h) (Or.inl ⟨by kernel_rfl, ?_⟩) ?_
        · intro w; go_simp <;> first | omega | (intro hh; exfalso; omega)
        refine wpAny_take (i := 18) (v := .bool true) rfl (by kernel_rfl) (by kernel_rfl) (by kernel_rfl) (fun _ _ _ h => h) (Or.inl ⟨by kernel_rfl, ?_⟩) ?_
        · intro w; go_simp <;> first | omega | (intro hh; exfalso; omega)
        refine wpAny_take (i := 19) (v := x12) rfl (by kernel_rfl) (by kernel_rfl) (by kernel_rfl) (fun _ _ _ h => h) (Or.inl ⟨by kernel_rfl, ?_⟩) ?_
        · intro w; go_simp <;> first | omega | (intro hh; exfalso; omega)
        refine wpAny_take (i := 20) (v := x7) rfl (by kernel_rfl) (by kernel_rfl) (by kernel_rfl) (fun _ _ _ h => h) (Or.inl ⟨by kernel_rfl, ?_⟩) ?_
        · intro w; go_simp <;> first | omega | (intro hh; exfalso; omega)
        refine wpAny_ready (rs := [21]) (by kernel_rfl) (by simp) ?_
        refine AllReady.cons rfl (fun K hK => ?_) AllReady.nil
        go_simp
        go_at_call 29
        refine (M2.out w16 hb16).mono ?_
        rintro e w17 ⟨rfl, hb17⟩
        refine hK _ _ ?_
        clear hK K
        refine wpAny_take (i := 22) (v := .bool true) rfl (by kernel_rfl) (by kernel_rfl) (by kernel_rfl) (fun _ _ _ h => h) (Or.inl ⟨by kernel_rfl, ?_⟩) ?_
        · intro w; go_simp <;> first | omega | (intro hh; exfalso; omega)
        refine wpAny_take (i := 23) (v := .bool true) rfl (by kernel_rfl) (by kernel_rfl) (by kernel_rfl) (fun _ _ _ h => h) (Or.inl ⟨by kernel_rfl, ?_⟩) ?_
        · intro w; go_simp <;> first | omega | (intro hh; exfalso; omega)
        refine wpAny_take (i := 24) (v := .bool true) rfl (by kernel_rfl) (by kernel_rfl) (by kernel_rfl) (fun _ _ _ h => h) (Or.inl ⟨by kernel_rfl, ?_⟩) ?_
        · intro w; go_simp <;> first | omega | (intro hh; exfalso; omega)
        refine wpAny_take (i := 25) (v := .bool true) rfl (by kernel_rfl) (by kernel_rfl) (by kernel_rfl) (fun _ _ _ h => h) (Or.inl ⟨by kernel_rfl, ?_⟩) ?_
        · intro w; go_simp <;> first | omega | (intro hh; exfalso; omega)
        refine wpAny_take (i := 26) (v := .bool true) rfl (by kernel_rfl) (by kernel_rfl) (by kernel_rfl) (fun _ _ _ h => h) (Or.inl ⟨by kernel_rfl, ?_⟩) ?_
        · intro w; go_simp <;> first | omega | (intro hh; exfalso; omega)
        refine wpAny_done (by kernel_rfl) ?_ _
        go_wp2_with fail
        go_ret
        exact ⟨by kernel_rfl, below_seq B2 (below_seq z12 hb17)⟩
      · have k0 : w13.cell? ⟨w9.heap.size, 0, none⟩ = some (.bool sb) := (KR.out w13 hb13).cell 0
        have k1 : w13.cell? ⟨w9.heap.size, 1, none⟩ = some (.slice A1 m1 q1) := (KR.out w13 hb13).cell 1
        have k2 : w13.cell? ⟨w9.heap.size, 2, none⟩ = some (.slice A2 m2 q2) := (KR.out w13 hb13).cell 2
        go_simp
        refine hK _ _ ?_
        clear hK K k0 k1 k2
        refine wpAny_ready (rs := [6]) (by kernel_rfl) (by simp) ?_
        refine AllReady.cons rfl (fun K hK => ?_) AllReady.nil
        go_simp
        go_at_call 15
        refine (T1.out w13 hb13).mono ?_
        rintro e w14 ⟨rfl, hb14⟩
        refine hK _ _ ?_
        clear hK K
        refine wpAny_ready (rs := [8]) (by kernel_rfl) (by simp) ?_
        refine AllReady.cons rfl (fun K hK => ?_) AllReady.nil
        go_simp
        go_at_call 16
        refine (T2.out w14 hb14).mono ?_
        rintro e w15 ⟨rfl, hb15⟩
        refine hK _ _ ?_
        clear hK K
        refine wpAny_take (i := 9) (v := .bool true) rfl (by kernel_rfl) (by kernel_rfl) (by kernel_rfl) (fun _ _ _ h => h) (Or.inl ⟨by kernel_rfl, ?_⟩) ?_
        · intro w; go_simp <;> first | omega | (intro hh; exfalso; omega)
        refine wpAny_take (i := 10) (v := .bool true) rfl (by kernel_rfl) (by kernel_rfl) (by kernel_rfl) (fun _ _ _ h => h) (Or.inl ⟨by kernel_rfl, ?_⟩) ?_
        · intro w; go_simp <;> first | omega | (intro hh; exfalso; omega)
        refine wpAny_take (i := 11) (v := .bool true) rfl (by kernel_rfl) (by kernel_rfl) (by kernel_rfl) (fun _ _ _ h => h) (Or.inl ⟨by kernel_rfl, ?_⟩) ?_
        · intro w; go_simp <;> first | omega | (intro hh; exfalso; omega)
        refine wpAny_take (i := 12) (v := x7) rfl (by kernel_rfl) (by kernel_rfl) (by kernel_rfl) (fun _ _ _ h => h) (Or.inl ⟨by kernel_rfl, ?_⟩) ?_
        · intro w; go_simp <;> first | omega | (intro hh; exfalso; omega)
        refine wpAny_ready (rs := [13]) (by kernel_rfl) (by simp) ?_
        refine AllReady.cons rfl (fun K hK => ?_) AllReady.nil
        go_simp
        go_at_call 15
        refine (T1.out w15 hb15).mono ?_
        rintro e w16 ⟨rfl, hb16⟩
        refine hK _ _ ?_
        clear hK K
        refine wpAny_take (i := 14) (v := .int .i64 (St.length : Int)) rfl (by kernel_rfl) (by kernel_rfl) (by kernel_rfl) (fun _ _ _ h => h) (Or.inl ⟨by kernel_rfl, ?_⟩) ?_
        · intro w; go_simp <;> first | omega | (intro hh; exfalso; omega)
        refine wpAny_take (i := 15) (v := .bool false) rfl (by kernel_rfl) (by kernel_rfl) (by kernel_rfl) (fun _ _ _ h => h) (Or.inl ⟨by kernel_rfl, ?_⟩) ?_
        · intro w; go_simp <;> first | omega | (intro hh; exfalso; omega)
        refine wpAny_take (i := 16) (v := .bool false) rfl (by kernel_rfl) (by kernel_rfl) (by kernel_rfl) (fun _ _ _ h => h) (Or.inl ⟨by kernel_rfl, ?_⟩) ?_
        · intro w; go_simp <;> first | omega | (intro hh; exfalso; omega)
        refine wpAny_take (i := 17) (v := .bool true) rfl (by kernel_rfl) (by kernel_rfl) (by kernel_rfl) (fun _ _ _ h => h) (Or.inl ⟨by kernel_rfl, ?_⟩) ?_
        · intro w; go_simp <;> first | omega | (intro hh; exfalso; omega)
        refine wpAny_take (i := 18) (v := .bool true) rfl (by kernel_rfl) (by kernel_rfl) (by kernel_rfl) (fun _ _ _ h => h) (Or.inl ⟨by kernel_rfl, ?_⟩) ?_
        · intro w; go_simp <;> first | omega | (intro hh; exfalso; omega)
        refine wpAny_take (i := 19) (v := x12) rfl (by kernel_rfl) (by kernel_rfl) (by kernel_rfl) (fun _ _ _ h => h) (Or.inl ⟨by kernel_rfl, ?_⟩) ?_
        · intro w; go_simp <;> first | omega | (intro hh; exfalso; omega)
        refine wpAny_take (i := 20) (v := x7) rfl (by kernel_rfl) (by kernel_rfl) (by kernel_rfl) (fun _ _ _ h => h) (Or.inl ⟨by kernel_rfl, ?_⟩) ?_
        · intro w; go_simp <;> first | omega | (intro hh; exfalso; omega)
        refine wpAny_ready (rs := [21]) (by kernel_rfl) (by simp) ?_
        refine AllReady.cons rfl (fun K hK => ?_) AllReady.nil
        go_simp
        go_at_call 29
        refine (M2.out w16 hb16).mono ?_
        rintro e w17 ⟨rfl, hb17⟩
        refine hK _ _ ?_
        clear hK K
        refine wpAny_take (i := 22) (v := .bool true) rfl (by kernel_rfl) (by kernel_rfl) (by kernel_rfl) (fun _ _ _ h => h) (Or.inl ⟨by kernel_rfl, ?_⟩) ?_
        · intro w; go_simp <;> first | omega | (intro hh; exfalso; omega)
        refine wpAny_take (i := 23) (v := .bool true) rfl (by kernel_rfl) (by kernel_rfl) (by kernel_rfl) (fun _ _ _ h => h) (Or.inl ⟨by kernel_rfl, ?_⟩) ?_
        · intro w; go_simp <;> first | omega | (intro hh; exfalso; omega)
        refine wpAny_take (i := 24) (v := .bool true) rfl (by kernel_rfl) (by kernel_rfl) (by kernel_rfl) (fun _ _ _ h => h) (Or.inl ⟨by kernel_rfl, ?_⟩) ?_
        · intro w; go_simp <;> first | omega | (intro hh; exfalso; omega)
        refine wpAny_take (i := 25) (v := .bool true) rfl (by kernel_rfl) (by kernel_rfl) (by kernel_rfl) (fun _ _ _ h => h) (Or.inl ⟨by kernel_rfl, ?_⟩) ?_
        · intro w; go_simp <;> first | omega | (intro hh; exfalso; omega)
        refine wpAny_take (i := 26) (v := .bool true) rfl (by kernel_rfl) (by kernel_rfl) (by kernel_rfl) (fun _ _ _ h => h) (Or.inl ⟨by kernel_rfl, ?_⟩) ?_
        · intro w; go_simp <;> first | omega | (intro hh; exfalso; omega)
        refine wpAny_done (by kernel_rfl) ?_ _
        go_wp2_with fail
        go_ret
        exact ⟨by kernel_rfl, below_seq B2 (below_seq z12 hb17)⟩
    · have C12 := Lib.hid (CLN.out (by omega) w11)
      have hd40 : decide ((40 : Int) < (St.length : Int)) = true := decide_eq_true (by omega)
      clear CLY CLN
      go_wp2_with fail
      go_at_call 27
      refine C12.out.mono ?_
      rintro e w12 ⟨rfl, hb12⟩
      have y12 := below_seq hb11 hb12
      have z12 := below_seq z11 hb12
      have KA : Hid (∀ W, Below w12.heap.size w12 W → FracPtr W x7 Q) := Lib.hid fun W h => HA10.out.keep (below_seq y12 h)
      have KB : Hid (∀ W, Below w12.heap.size w12 W → FracPtr W x8 Q) := Lib.hid fun W h => HB10.out.keep (below_seq y12 h)
      have KR : Hid (∀ W, Below w12.heap.size w12 W → Row W w9.heap.size 30 #[.bool sb, .slice A1 m1 q1, .slice A2 m2 q2]) := Lib.hid fun W h => Row.keep HR10.out (below_seq y12 h)
      have KQ : Hid (∀ W, Below w12.heap.size w12 W → RefQ W (.agg #[.bool sb, .slice A1 m1 q1, .slice A2 m2 q2]) sb N1 D1) := Lib.hid fun W h => HQ10.out.keep (below_seq y12 h)
      have T1 : Hid (∀ W, Below w12.heap.size w12 W → Calls Tryz.prog 15 #[x7] W (fun e w' => e = .returned (.string ⟨St.toArray⟩) ∧ Below w12.heap.size w12 w')) := Lib.hid fun W h => by
        refine (CTA.out W x7 (below_seq z12 h) (KA.out W h)).mono ?_
        rintro e w' ⟨rfl, hb⟩
        exact ⟨rfl, below_seq h hb⟩
      have T2 : Hid (∀ W, Below w12.heap.size w12 W → Calls Tryz.prog 16 #[.agg #[.bool sb, .slice A1 m1 q1, .slice A2 m2 q2]] W (fun e w' => e = .returned (.string ⟨St.toArray⟩) ∧ Below w12.heap.size w12 w')) := Lib.hid fun W h => by
        refine (CTQ.out W _ (KQ.out W h)).mono ?_
        rintro e w' ⟨rfl, hb⟩
        exact ⟨rfl, below_seq h hb⟩
      have M1 : Hid (∀ W, Below w12.heap.size w12 W → Calls Tryz.prog 29 #[x7, x8] W (fun e w' => e = .returned (.int .i64 0) ∧ Below w12.heap.size w12 w')) := Lib.hid fun W h => by
        refine (CCM.out W x7 x8 (KA.out W h) (KB.out W h)).mono ?_
        rintro e w' ⟨rfl, hb⟩
        exact ⟨rfl, below_seq h hb⟩
      have hbe : (St == St) = true := beq_self_eq_true St
      clear hb11 hb12 y12 z11 z10 C12 HA10 HB10 HQ10 HR10 CTA CTQ CCM KA KB KQ
      go_wp2_with fail
      refine wp_region_any (by kernel_rfl) ?_
      change wpAny _ _ _ _ _ _ _ (World.drew _)
      obtain ⟨W0, hW0⟩ : ∃ W0, W0 = w12.drew := ⟨_, rfl⟩
      rw [← hW0]
      have z0 : Below w12.heap.size w12 W0 := by rw [hW0]; exact Below.drewN_ (Below.refl _ _) 1
      clear hW0
      refine wpAny_take (i := 0) (v := x7) rfl (by kernel_rfl) (by kernel_rfl) (by kernel_rfl) (fun _ _ _ h => h) (Or.inl ⟨by kernel_rfl, ?_⟩) ?_
      · intro w; go_simp <;> first | omega | (intro hh; exfalso; omega)
      refine wpAny_take (i := 1) (v := x8) rfl (by kernel_rfl) (by kernel_rfl) (by kernel_rfl) (fun _ _ _ h => h) (Or.inl ⟨by kernel_rfl, ?_⟩) ?_
      · intro w; go_simp <;> first | omega | (intro hh; exfalso; omega)
      refine wpAny_ready (rs := [2]) (by kernel_rfl) (by simp) ?_
      refine AllReady.cons rfl (fun K hK => ?_) AllReady.nil
      go_simp
      go_at_call 29
      refine (M1.out _ z0).mono ?_
      rintro e w13 ⟨rfl, hb13⟩
      refine hK _ _ ?_
      clear hK K
      refine wpAny_take (i := 3) (v := .bool true) rfl (by kernel_rfl) (by kernel_rfl) (by kernel_rfl) (fun _ _ _ h => h) (Or.inl ⟨by kernel_rfl, ?_⟩) ?_
      · intro w; go_simp <;> first | omega | (intro hh; exfalso; omega)
      refine wpAny_take (i := 4) (v := .bool true) rfl (by kernel_rfl) (by kernel_rfl) (by kernel_rfl) (fun _ _ _ h => h) (Or.inl ⟨by kernel_rfl, ?_⟩) ?_
      · intro w; go_simp <;> first | omega | (intro hh; exfalso; omega)
      refine wpAny_take (i := 5) (v := x7) rfl (by kernel_rfl) (by kernel_rfl) (by kernel_rfl) (fun _ _ _ h => h) (Or.inl ⟨by kernel_rfl, ?_⟩) ?_
      · intro w; go_simp <;> first | omega | (intro hh; exfalso; omega)
      refine wpAny_ready (rs := [6, 7]) (by kernel_rfl) (by simp) ?_
      refine AllReady.cons rfl (fun K hK => ?_) (AllReady.cons rfl (fun K hK => ?_) AllReady.nil)
      · go_simp
        go_at_call 15
        refine (T1.out w13 hb13).mono ?_
        rintro e w14 ⟨rfl, hb14⟩
        refine hK _ _ ?_
        clear hK K
        refine wpAny_ready (rs := [7]) (by kernel_rfl) (by simp) ?_
        refine AllReady.cons rfl (fun K hK => ?_) AllReady.nil
        have k0 : w14.cell? ⟨w9.heap.size, 0, none⟩ = some (.bool sb) := (KR.out w14 hb14).cell 0
        have k1 : w14.cell? ⟨w9.heap.size, 1, none⟩ = some (.slice A1 m1 q1) := (KR.out w14 hb14).cell 1
        have k2 : w14.cell? ⟨w9.heap.size, 2, none⟩ = some (.slice A2 m2 q2) := (KR.out w14 hb14).cell 2
        go_simp
        refine hK _ _ ?_
        clear hK K k0 k1 k2
        refine wpAny_ready (rs := [8]) (by kernel_rfl) (by simp) ?_
        refine AllReady.cons rfl (fun K hK => ?_) AllReady.nil
        go_simp
        go_at_call 16
        refine (T2.out w14 hb14).mono ?_
        rintro e w15 ⟨rfl, hb15⟩
        refine hK _ _ ?_
        clear hK K
        refine wpAny_take (i := 9) (v := .bool true) rfl (by kernel_rfl) (by kernel_rfl) (by kernel_rfl) (fun _ _ _ h => h) (Or.inl ⟨by kernel_rfl, ?_⟩) ?_
        · intro w; go_simp <;> first | omega | (intro hh; exfalso; omega)
        refine wpAny_take (i := 10) (v := .bool true) rfl (by kernel_rfl) (by kernel_rfl) (by kernel_rfl) (fun _ _ _ h => h) (Or.inl ⟨by kernel_rfl, ?_⟩) ?_
        · intro w; go_simp <;> first | omega | (intro hh; exfalso; omega)
        refine wpAny_take (i := 11) (v := .bool true) rfl (by kernel_rfl) (by kernel_rfl) (by kernel_rfl) (fun _ _ _ h => h) (Or.inl ⟨by kernel_rfl, ?_⟩) ?_
        · intro w; go_simp <;> first | omega | (intro hh; exfalso; omega)
        refine wpAny_take (i := 12) (v := x7) rfl (by kernel_rfl) (by kernel_rfl) (by kernel_rfl) (fun _ _ _ h => h) (Or.inl ⟨by kernel_rfl, ?_⟩) ?_
        · intro w; go_simp <;> first | omega | (intro hh; exfalso; omega)
        refine wpAny_ready (rs := [13]) (by kernel_rfl) (by simp) ?_
        refine AllReady.cons rfl (fun K hK => ?_) AllReady.nil
        go_simp
        go_at_call 15
        refine (T1.out w15 hb15).mono ?_
        rintro e w16 ⟨rfl, hb16⟩
        refine hK _ _ ?_
        clear hK K
        refine wpAny_take (i := 14) (v := .int .i64 (St.length : Int)) rfl (by kernel_rfl) (by kernel_rfl) (by kernel_rfl) (fun _ _ _ h => h) (Or.inl ⟨by kernel_rfl, ?_⟩) ?_
        · intro w; go_simp <;> first | omega | (intro hh; exfalso; omega)
        refine wpAny_take (i := 15) (v := .bool true) rfl (by kernel_rfl) (by kernel_rfl) (by kernel_rfl) (fun _ _ _ h => h) (Or.inl ⟨by kernel_rfl, ?_⟩) ?_
        · intro w; go_simp <;> first | omega | (intro hh; exfalso; omega)
        refine wpAny_take (i := 16) (v := .bool true) rfl (by kernel_rfl) (by kernel_rfl) (by kernel_rfl) (fun _ _ _ h => h) (Or.inl ⟨by kernel_rfl, ?_⟩) ?_
        · intro w; go_simp <;> first | omega | (intro hh; exfalso; omega)
        refine wpAny_take (i := 17) (v := undef) rfl (by kernel_rfl) (by kernel_rfl) (by kernel_rfl) (fun _ _ _ h => h) (Or.inr ⟨by kernel_rfl, rfl⟩) ?_
        refine wpAny_take (i := 18) (v := undef) rfl (by kernel_rfl) (by kernel_rfl) (by kernel_rfl) (fun _ _ _ h => h) (Or.inr ⟨by kernel_rfl, rfl⟩) ?_
        refine wpAny_take (i := 19) (v := undef) rfl (by kernel_rfl) (by kernel_rfl) (by kernel_rfl) (fun _ _ _ h => h) (Or.inr ⟨by kernel_rfl, rfl⟩) ?_
        refine wpAny_take (i := 20) (v := undef) rfl (by kernel_rfl) (by kernel_rfl) (by kernel_rfl) (fun _ _ _ h => h) (Or.inr ⟨by kernel_rfl, rfl⟩) ?_
        refine wpAny_take (i := 21) (v := undef) rfl (by kernel_rfl) (by kernel_rfl) (by kernel_rfl) (fun _ _ _ h => h) (Or.inr ⟨by kernel_rfl, rfl⟩) ?_
        refine wpAny_take (i := 22) (v := undef) rfl (by kernel_rfl) (by kernel_rfl) (by kernel_rfl) (fun _ _ _ h => h) (Or.inr ⟨by kernel_rfl, rfl⟩) ?_
        refine wpAny_take (i := 23) (v := undef) rfl (by kernel_rfl) (by kernel_rfl) (by kernel_rfl) (fun _ _ _ h => h) (Or.inr ⟨by kernel_rfl, rfl⟩) ?_
        refine wpAny_take (i := 24) (v := .bool true) rfl (by kernel_rfl) (by kernel_rfl) (by kernel_rfl) (fun _ _ _ h => h) (Or.inl ⟨by kernel_rfl, ?_⟩) ?_
        · intro w; go_simp <;> first | omega | (intro hh; exfalso; omega)
        refine wpAny_take (i := 25) (v := .bool true) rfl (by kernel_rfl) (by kernel_rfl) (by kernel_rfl) (fun _ _ _ h => h) (Or.inl ⟨by kernel_rfl, ?_⟩) ?_
        · intro w; go_simp <;> first | omega | (intro hh; exfalso; omega)
        refine wpAny_take (i := 26) (v := .bool true) rfl (by kernel_rfl) (by kernel_rfl) (by kernel_rfl) (fun _ _ _ h => h) (Or.inl ⟨by kernel_rfl, ?_⟩) ?_
        · intro w; go_simp <;> first | omega | (intro hh; exfalso; omega)
        refine wpAny_done (by kernel_rfl) ?_ _
        go_wp2_with fail
        go_ret
        exact ⟨by kernel_rfl, below_seq B2 (below_seq z12 hb16)⟩
      · have k0 : w13.cell? ⟨w9.heap.size, 0, none⟩ = some (.bool sb) := (KR.out w13 hb13).cell 0
        have k1 : w13.cell? ⟨w9.heap.size, 1, none⟩ = some (.slice A1 m1 q1) := (KR.out w13 hb13).cell 1
        have k2 : w13.cell? ⟨w9.heap.size, 2, none⟩ = some (.slice A2 m2 q2) := (KR.out w13 hb13).cell 2
        go_simp
        refine hK _ _ ?_
        clear hK K k0 k1 k2
        refine wpAny_ready (rs := [6]) (by kernel_rfl) (by simp) ?_
        refine AllReady.cons rfl (fun K hK => ?_) AllReady.nil
        go_simp
        go_at_call 15
        refine (T1.out w13 hb13).mono ?_
        rintro e w14 ⟨rfl, hb14⟩
        refine hK _ _ ?_
        clear hK K
        refine wpAny_ready (rs := [8]) (by kernel_rfl) (by simp) ?_
        refine AllReady.cons rfl (fun K hK => ?_) AllReady.nil
        go_simp
        go_at_call 16
        refine (T2.out w14 hb14).mono ?_
        rintro e w15 ⟨rfl, hb15⟩
        refine hK _ _ ?_
        clear hK K
        refine wpAny_take (i := 9) (v := .bool true) rfl (by kernel_rfl) (by kernel_rfl) (by kernel_rfl) (fun _ _ _ h => h) (Or.inl ⟨by kernel_rfl, ?_⟩) ?_
        · intro w; go_simp <;> first | omega | (intro hh; exfalso; omega)
        refine wpAny_take (i := 10) (v := .bool true) rfl (by kernel_rfl) (by kernel_rfl) (by kernel_rfl) (fun _ _ _ h => h) (Or.inl ⟨by kernel_rfl, ?_⟩) ?_
        · intro w; go_simp <;> first | omega | (intro hh; exfalso; omega)
        refine wpAny_take (i := 11) (v := .bool true) rfl (by kernel_rfl) (by kernel_rfl) (by kernel_rfl) (fun _ _ _ h => h) (Or.inl ⟨by kernel_rfl, ?_⟩) ?_
        · intro w; go_simp <;> first | omega | (intro hh; exfalso; omega)
        refine wpAny_take (i := 12) (v := x7) rfl (by kernel_rfl) (by kernel_rfl) (by kernel_rfl) (fun _ _ _ h => h) (Or.inl ⟨by kernel_rfl, ?_⟩) ?_
        · intro w; go_simp <;> first | omega | (intro hh; exfalso; omega)
        refine wpAny_ready (rs := [13]) (by kernel_rfl) (by simp) ?_
        refine AllReady.cons rfl (fun K hK => ?_) AllReady.nil
        go_simp
        go_at_call 15
        refine (T1.out w15 hb15).mono ?_
        rintro e w16 ⟨rfl, hb16⟩
        refine hK _ _ ?_
        clear hK K
        refine wpAny_take (i := 14) (v := .int .i64 (St.length : Int)) rfl (by kernel_rfl) (by kernel_rfl) (by kernel_rfl) (fun _ _ _ h => h) (Or.inl ⟨by kernel_rfl, ?_⟩) ?_
        · intro w; go_simp <;> first | omega | (intro hh; exfalso; omega)
        refine wpAny_take (i := 15) (v := .bool true) rfl (by kernel_rfl) (by kernel_rfl) (by kernel_rfl) (fun _ _ _ h => h) (Or.inl ⟨by kernel_rfl, ?_⟩) ?_
        · intro w; go_simp <;> first | omega | (intro hh; exfalso; omega)
        refine wpAny_take (i := 16) (v := .bool true) rfl (by kernel_rfl) (by kernel_rfl) (by kernel_rfl) (fun _ _ _ h => h) (Or.inl ⟨by kernel_rfl, ?_⟩) ?_
        · intro w; go_simp <;> first | omega | (intro hh; exfalso; omega)
        refine wpAny_take (i := 17) (v := undef) rfl (by kernel_rfl) (by kernel_rfl) (by kernel_rfl) (fun _ _ _ h => h) (Or.inr ⟨by kernel_rfl, rfl⟩) ?_
        refine wpAny_take (i := 18) (v := undef) rfl (by kernel_rfl) (by kernel_rfl) (by kernel_rfl) (fun _ _ _ h => h) (Or.inr ⟨by kernel_rfl, rfl⟩) ?_
        refine wpAny_take (i := 19) (v := undef) rfl (by kernel_rfl) (by kernel_rfl) (by kernel_rfl) (fun _ _ _ h => h) (Or.inr ⟨by kernel_rfl, rfl⟩) ?_
        refine wpAny_take (i := 20) (v := undef) rfl (by kernel_rfl) (by kernel_rfl) (by kernel_rfl) (fun _ _ _ h => h) (Or.inr ⟨by kernel_rfl, rfl⟩) ?_
        refine wpAny_take (i := 21) (v := undef) rfl (by kernel_rfl) (by kernel_rfl) (by kernel_rfl) (fun _ _ _ h => h) (Or.inr ⟨by kernel_rfl, rfl⟩) ?_
        refine wpAny_take (i := 22) (v := undef) rfl (by kernel_rfl) (by kernel_rfl) (by kernel_rfl) (fun _ _ _ h => h) (Or.inr ⟨by kernel_rfl, rfl⟩) ?_
        refine wpAny_take (i := 23) (v := undef) rfl (by kernel_rfl) (by kernel_rfl) (by kernel_rfl) (fun _ _ _ h => h) (Or.inr ⟨by kernel_rfl, rfl⟩) ?_
        refine wpAny_take (i := 24) (v := .bool true) rfl (by kernel_rfl) (by kernel_rfl) (by kernel_rfl) (fun _ _ _ h => h) (Or.inl ⟨by kernel_rfl, ?_⟩) ?_
        · intro w; go_simp <;> first | omega | (intro hh; exfalso; omega)
        refine wpAny_take (i := 25) (v := .bool true) rfl (by kernel_rfl) (by kernel_rfl) (by kernel_rfl) (fun _ _ _ h => h) (Or.inl ⟨by kernel_rfl, ?_⟩) ?_
        · intro w; go_simp <;> first | omega | (intro hh; exfalso; omega)
        refine wpAny_take (i := 26) (v := .bool true) rfl (by kernel_rfl) (by kernel_rfl) (by kernel_rfl) (fun _ _ _ h => h) (Or.inl ⟨by kernel_rfl, ?_⟩) ?_
        · intro w; go_simp <;> first | omega | (intro hh; exfalso; omega)
        refine wpAny_done (by kernel_rfl) ?_ _
        go_wp2_with fail
        go_ret
        exact ⟨by kernel_rfl, below_seq B2 (below_seq z12 hb16)⟩
end Go.Proofs.YtohjljbhfopffaaGreatDoor
