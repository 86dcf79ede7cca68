/- Package victuallerlaw1: matrix: rows of texts that are fractions. -/
import Derived.Test.YthephiihcgibjaaGreatDoorJWalkM
import Derived.Test.YthephiihcgibjaaGreatDoorJWalkS
set_option linter.unusedVariables false
set_option linter.unusedSimpArgs false
namespace Vic
open Go Go.RowKit
def strKind (u : Value) : Prop := ∃ s, u = .string s
/-- rows of texts that are fractions -/
def TextsMade (rows cols : Nat) (w : World) (e : Ending) (w' : World) : Prop :=
  ∃ (sb cs : Nat) (tb tc : Nat → Nat) (tx : Nat → Nat → List UInt8), e = .returned (.slice (some ⟨sb, 0, none⟩) rows cs) ∧ rows ≤ cs ∧ (∀ i, i < rows → w'.cell? ⟨sb, 0 + i, none⟩ = some (.slice (some ⟨tb i, 0, none⟩) cols (tc i))) ∧ (∀ i, i < rows → cols ≤ tc i) ∧
    (∀ i j, i < rows → j < cols → w'.cell? ⟨tb i, 0 + j, none⟩ = some (.string ⟨(tx i j).toArray⟩)) ∧ (∀ i j, i < rows → j < cols → FracGood (tx i j) ∧ (tx i j).length ≤ 20000) ∧ Below w.heap.size w w'
/-- one row of texts more -/
theorem texts_round {T1 T2 : TypeId} {w W wr cl w5 : World} {k n g3 cap3 : Nat} {gn cn : Nat → Nat} {tx : Nat → Nat → List UInt8} {ts : List (List UInt8)} {s v5 : Value}
    (hown : OwnK sliceKind W w.heap.size T2 1 s k (rowVals k n gn cn)) (hcel : ∀ i j, i < k → j < n → W.cell? ⟨gn i, j, none⟩ = some (.string ⟨(tx i j).toArray⟩)) (hcap : ∀ i, i < k → n ≤ cn i)
    (hgood : ∀ i j, i < k → j < n → FracGood (tx i j) ∧ (tx i j).length ≤ 20000) (hn : 0 < n) (h04 : Below W.heap.size W cl)
    (hrow : OwnK strKind wr W.heap.size T1 1 (.slice (some ⟨g3, 0, none⟩) n cap3) n (ts.map fun x => Value.string ⟨x.toArray⟩)) (hal : Below wr.heap.size wr cl) (htl : ts.length = n) (htg : ∀ x ∈ ts, FracGood x ∧ x.length ≤ 20000)
    (hown5 : OwnK sliceKind w5 w.heap.size T2 1 v5 (k + 1) (rowVals k n gn cn ++ [.slice (some ⟨g3, 0, none⟩) n cap3])) (hgr : cl.grownBy w5 s.ownBlock) (hbr : Below w.heap.size w W) :
    ∃ (gn' cn' : Nat → Nat) (tx' : Nat → Nat → List UInt8), OwnK sliceKind w5 w.heap.size T2 1 v5 (k + 1) (rowVals (k + 1) n gn' cn') ∧ (∀ i j, i < k + 1 → j < n → w5.cell? ⟨gn' i, j, none⟩ = some (.string ⟨(tx' i j).toArray⟩)) ∧ (∀ i, i < k + 1 → n ≤ cn' i) ∧
      (∀ i j, i < k + 1 → j < n → FracGood (tx' i j) ∧ (tx' i j).length ≤ 20000) ∧ Below w.heap.size w w5 := by
  have hcl : ∀ b o x, cl.cell? ⟨b, o, none⟩ = some (.string x) → w5.cell? ⟨b, o, none⟩ = some (.string x) := fun b o x hx => by
    have hne : s.ownBlock ≠ some b := fun e => by
      obtain ⟨_, _, _, h⟩ := (hown.keep h04).kind e hx
      cases h
    rw [cell_same (hgr.block b (block_lt hx) (fun e => hne e.symm))]
    exact hx
  have hr3 : ∀ j, j < n → ∃ x, ts[j]? = some x ∧ wr.cell? ⟨g3, j, none⟩ = some (.string ⟨x.toArray⟩) := fun j hj => by
    have hj' : j < ts.length := by omega
    refine ⟨ts[j], List.getElem?_eq_getElem hj', ?_⟩
    have := hrow.own.cells (g := g3) rfl j (.string ⟨(ts[j]).toArray⟩) (by rw [List.getElem?_map, List.getElem?_eq_getElem hj']; rfl)
    have e0 : (⟨g3, 0, none⟩ : Addr).add j = ⟨g3, j, none⟩ := by
      rcases j with _ | j
      · rfl
      · simp [Addr.add]
    rwa [e0] at this
  refine ⟨fun i => if i = k then g3 else gn i, fun i => if i = k then cap3 else cn i, fun i j => if i = k then ts.getD j [] else tx i j, ?_, fun i j hi hj => ?_, fun i hi => ?_, fun i j hi hj => ?_, ?_⟩
  · rw [← rowVals_push]; exact hown5
  · by_cases e : i = k
    · subst e
      obtain ⟨x, h1, h2⟩ := hr3 j hj
      have h3 : ts.getD j [] = x := by rw [List.getD_eq_getElem?_getD, h1]; rfl
      simp only [if_pos, h3]
      exact hcl _ _ _ (cell_keep h2 hal)
    · simp only [if_neg e]
      exact hcl _ _ _ (cell_keep (hcel i j (by omega) hj) h04)
  · by_cases e : i = k
    · simp only [if_pos e]
      obtain ⟨_, ⟨h1, _⟩ | ⟨g', cap', cur, h1, _, _, h4, _⟩⟩ := hrow
      · cases h1
      · injection h1 with _ _ h3; omega
    · simp only [if_neg e]; exact hcap i (by omega)
  · by_cases e : i = k
    · subst e
      obtain ⟨x, h1, h2⟩ := hr3 j hj
      have h3 : ts.getD j [] = x := by rw [List.getD_eq_getElem?_getD, h1]; rfl
      simp only [if_pos, h3]
      exact htg x (List.mem_of_getElem? h1)
    · simp only [if_neg e]; exact hgood i j (by omega) hj
  · have h1 := hbr.trans (h04.mono hbr.size)
    refine ⟨hgr.os.trans h1.os, hgr.tape.trans h1.tape, hgr.output.trans h1.output, Nat.le_trans h1.size hgr.size, fun j hj => (hgr.block j (by have := h1.size; omega) (fun e => ?_)).trans (h1.block j hj)⟩
    have := (hown.lt e.symm).1
    omega
end Vic
namespace Go.Proofs.YthephiihcgibjaaGreatDoor
open Go.RowKit Vic
theorem info_str0 : (Tryz.prog.info? 9).map (fun i => (i.zero, i.size, i.bytes)) = some (some (.string ⟨#[]⟩), 1, 16) := by kernel_rfl
theorem info_str : ∃ i : TypeInfo, Tryz.prog.info? 9 = some i ∧ i.zero = some (.string ⟨#[]⟩) ∧ i.size = 1 ∧ i.bytes = 16 := by
  have h := info_str0
  cases hi : Tryz.prog.info? 9 with
  | none => rw [hi] at h; cases h
  | some i =>
    rw [hi] at h
    simp only [Option.map_some, Option.some.injEq, Prod.mk.injEq] at h
    exact ⟨i, rfl, h.1, h.2.1, h.2.2⟩
theorem info_ls0 : (Tryz.prog.info? 37).map (fun i => (i.zero, i.size, i.bytes)) = some (some (.slice none 0 0), 1, 24) := by kernel_rfl
theorem info_ls : ∃ i : TypeInfo, Tryz.prog.info? 37 = some i ∧ i.zero = some (.slice none 0 0) ∧ i.size = 1 ∧ i.bytes = 24 := by
  have h := info_ls0
  cases hi : Tryz.prog.info? 37 with
  | none => rw [hi] at h; cases h
  | some i =>
    rw [hi] at h
    simp only [Option.map_some, Option.some.injEq, Prod.mk.injEq] at h
    exact ⟨i, rfl, h.1, h.2.1, h.2.2⟩
set_option maxRecDepth 100000 in
set_option maxHeartbeats 8000000 in
theorem law_matrix (w : World) (rows cols : Nat) (vb : Value) (ys : List (List UInt8)) (hy : StrsArg w vb ys) (hyl : ys.length ≤ 9223372036854775807) (hyb : ∀ y ∈ ys, y.length ≤ 9223372036854775807) (hr : rows ≤ 9) (hr0 : 0 < rows) (hcc : cols ≤ 9) (hc0 : 0 < cols) :
    Calls Tryz.prog 24 #[.int .i64 rows, .int .i64 cols, vb] w (TextsMade rows cols w) := by
  obtain ⟨A2, c2, rfl, hyc⟩ := hy
  have HYC := Lib.hid hyc; have HYB := Lib.hid hyb
  obtain ⟨i1, hi1, hz1, hsz1, hby1⟩ := info_str
  obtain ⟨i2, hi2, hz2, hsz2, hby2⟩ := info_ls
  clear hyc hyb
  go_enter Tryz.func24, Tryz.ntmps24
  go_wp2_with fail
  go_loopw [8, 7] (fun t s wr => ∃ (k : Nat) (gn cn : Nat → Nat) (tx : Nat → Nat → List UInt8), t = .int .i64 k ∧ k ≤ rows ∧ Hid (OwnK sliceKind wr w.heap.size 37 1 s k (rowVals k cols gn cn)) ∧ Hid (∀ i j, i < k → j < cols → wr.cell? ⟨gn i, j, none⟩ = some (.string ⟨(tx i j).toArray⟩)) ∧ Hid (∀ i, i < k → cols ≤ cn i) ∧ Hid (∀ i j, i < k → j < cols → FracGood (tx i j) ∧ (tx i j).length ≤ 20000) ∧ Below w.heap.size w wr) (fun t _ _ => rows - (intOf t).toNat)
  case atStart => exact ⟨0, fun _ => 0, fun _ => 0, fun _ _ => [], rfl, Nat.zero_le _, Lib.hid (OwnK.nil_ _ _ _ _ _), Lib.hid (fun i j hi => by omega), Lib.hid (fun i hi => by omega), Lib.hid (fun i j hi => by omega), Below.refl _ _⟩
  case round =>
    obtain ⟨k, gn, cn, tx, rfl, hk, hown, hcel, hcap, hgood, hbr⟩ := hrel
    obtain ⟨W, hW⟩ : ∃ X, X = wr := ⟨_, rfl⟩
    subst wr
    by_cases hkr : k < rows
    · have hkr' := Int.ofNat_lt.2 hkr
      go_wp2_with fail
      go_loopw [10, 9] (fun t s wr => ∃ (j : Nat) (ts : List (List UInt8)), t = .int .i64 j ∧ j ≤ cols ∧ ts.length = j ∧ Hid (OwnK strKind wr W.heap.size 9 1 s j (ts.map fun x => Value.string ⟨x.toArray⟩)) ∧ Hid (∀ x ∈ ts, FracGood x ∧ x.length ≤ 20000) ∧ Below W.heap.size W wr) (fun t _ _ => cols - (intOf t).toNat)
      case atStart => exact ⟨0, [], rfl, Nat.zero_le _, rfl, Lib.hid (OwnK.nil_ _ _ _ _ _), Lib.hid (fun x hx => by cases hx), Below.refl _ _⟩
      case round =>
        obtain ⟨j, ts, rfl, hj, htl, hownr, htg, hbi⟩ := hrel
        by_cases hjc : j < cols
        · have hjc' := Int.ofNat_lt.2 hjc
          obtain ⟨p, hp⟩ : ∃ p : Nat, (k : Int) * (j : Int) = p := ⟨k * j, by simp⟩
          have hp81 : p ≤ 81 := by
            have h1 : k * j ≤ 9 * 9 := Nat.mul_le_mul (by omega) (by omega)
            have h2 : ((k * j : Nat) : Int) = p := by rw [← hp]; simp
            omega
          obtain ⟨e0, he0⟩ : ∃ e0 : ByteArray, e0 = ⟨#[48]⟩ := ⟨_, rfl⟩
          have HE0 := Lib.hid he0
          clear he0
          by_cases hy0 : ys.length = 0
          case' pos =>
            have hpos : ¬ (ys.length : Int) > 0 := by omega
            clear hy0
            obtain ⟨V, hV⟩ : ∃ V : List UInt8, V = [48] := ⟨_, rfl⟩
            have HVG : Hid (FracGood V ∧ V.length ≤ 20000) := Lib.hid (by rw [hV]; exact ⟨fg_zero, by simp⟩)
            have HVE : Hid ((⟨#[48]⟩ : ByteArray) = ⟨V.toArray⟩) := Lib.hid (by rw [hV])
            obtain ⟨wz, hwz⟩ : ∃ X, X = wr := ⟨_, rfl⟩
            have BZ : Below wr.heap.size wr wz := by rw [hwz]; exact Below.refl _ _
            have HWZ := Lib.hid hwz
            clear hV hwz
            go_upto_region 14 with fail
            rw [HVE.out, ← HWZ.out]
          case' neg =>
            have hidx : ∃ ix : Nat, ((k : Int) * 7 + (j : Int) * 3 + (p : Int)).tmod (ys.length : Int) = ix ∧ ix < ys.length := by
              have h1 := Int.tmod_nonneg (a := (k : Int) * 7 + (j : Int) * 3 + (p : Int)) (ys.length : Int) (by omega)
              have h2 := Int.tmod_lt_of_pos ((k : Int) * 7 + (j : Int) * 3 + (p : Int)) (show (0 : Int) < ys.length by omega)
              exact ⟨(((k : Int) * 7 + (j : Int) * 3 + (p : Int)).tmod (ys.length : Int)).toNat, by omega, by omega⟩
            obtain ⟨ix, hix, hixl⟩ := hidx
            obtain ⟨y, hy⟩ : ∃ y, ys[ix]? = some y := ⟨ys[ix], by simp [hixl]⟩
            obtain ⟨gy, oy, rfl, hcy⟩ := HYC.out ix y hy
            have hcy' := cell_keep hcy (hbr.trans (hbi.mono hbr.size))
            have hpos : (ys.length : Int) > 0 := by omega
            have hixl' := Int.ofNat_lt.2 hixl
            have CG : Hid (∀ W, Calls Tryz.prog 31 #[.string ⟨y.toArray⟩] W (RefGotQ y W)) := Lib.hid fun W => ref_Get W y (HYB.out y (List.mem_of_getElem? hy))
            clear hcy hy
            go_wp2_with fail
            go_at_call 31
            refine (CG.out _).mono ?_
            rintro e w1 ⟨v, bb, rfl, hb1, (⟨rfl, hno, gz, rfl⟩ | ⟨rfl, hgood, ng, n, d, hq, hd, hquo, hn, hdl⟩)⟩
            case' inl =>
              obtain ⟨V, hV⟩ : ∃ V : List UInt8, V = [48] := ⟨_, rfl⟩
              have HVG : Hid (FracGood V ∧ V.length ≤ 20000) := Lib.hid (by rw [hV]; exact ⟨fg_zero, by simp⟩)
              have HVE : Hid ((⟨#[48]⟩ : ByteArray) = ⟨V.toArray⟩) := Lib.hid (by rw [hV])
              obtain ⟨wz, hwz⟩ : ∃ X, X = w1.alloc (.cells #[.bool false, .slice none 0 0, .slice (some ⟨gz, 0, none⟩) 1 1] 27) := ⟨_, rfl⟩
              have BZ : Below wr.heap.size wr wz := by rw [hwz]; exact below_seq hb1 ((Below.refl _ _).alloc (Nat.le_refl _) _)
              have HWZ := Lib.hid hwz
              clear hV hno hwz hb1 CG
              go_upto_region 14 with fail
              rw [HVE.out, ← HWZ.out]
            case' inr =>
              obtain ⟨A8, c8, A9, c9, rfl, hx8, hy8, _⟩ := hq.open_
              obtain ⟨m1, hm1⟩ : ∃ m1, m1 = (tdg n).length := ⟨_, rfl⟩
              obtain ⟨m2, hm2⟩ : ∃ m2, m2 = (tdg d).length := ⟨_, rfl⟩
              rw [← hm1, ← hm2] at hq ⊢
              obtain ⟨w2, hw2⟩ : ∃ X, X = w1.alloc (.cells #[.bool ng, .slice A8 m1 c8, .slice A9 m2 c9] 27) := ⟨_, rfl⟩
              have h12 : Below w1.heap.size w1 w2 := by rw [hw2]; exact (Below.refl _ _).alloc (Nat.le_refl _) _
              have CT0 := ref_Q_Text w2 _ ng n d (hq.keep h12) hd (by omega) (by omega)
              rw [hquo] at CT0
              obtain ⟨V, hV⟩ : ∃ V : List UInt8, V = fracText (fracOf y) := ⟨_, rfl⟩
              rw [← hV] at CT0
              have hVy : V = y := by rw [hV]; exact hgood.2.2.2
              have hVl : V.length ≤ 20000 := by rw [hV, ← hquo]; exact text_len hd (by omega) (by omega)
              have HVG : Hid (FracGood V ∧ V.length ≤ 20000) := Lib.hid ⟨by rw [hVy]; exact hgood, hVl⟩
              have CT := Lib.hid CT0
              have HW2 := Lib.hid hw2
              have B2 : Below wr.heap.size wr w2 := below_seq hb1 h12
              have hR2 : Row w2 w1.heap.size 27 #[.bool ng, .slice A8 m1 c8, .slice A9 m2 c9] := by rw [hw2]; exact Row.new _ _ _
              have g0 := hR2.cell 0; have g1 := hR2.cell 1; have g2 := hR2.cell 2
              clear CT0 hq hgood hquo hV hVy hVl hm1 hm2 hw2 hx8 hy8 hb1 h12 hR2 CG
              go_upto_region 12 with fail
              rw [← HW2.out]
              go_wp2_with fail
              go_at_call 15
              refine CT.out.mono ?_
              rintro e wz ⟨rfl, hbz⟩
              have BZ := below_seq B2 hbz
              clear CT hbz B2 g0 g1 g2
              go_upto_region 14 with fail
          all_goals
            have B2 : Below W.heap.size W wz := hbi.trans (BZ.mono hbi.size)
            obtain ⟨cl, hcl⟩ : ∃ cl, cl = wz.alloc (.cells #[.string ⟨V.toArray⟩] 9) := ⟨_, rfl⟩
            have hal : Below wz.heap.size wz cl := by rw [hcl]; exact (Below.refl _ _).alloc (Nat.le_refl _) _
            have hB5 : Below wr.heap.size wr cl := below_seq BZ hal
            have hown5 := Lib.hid (hownr.out.keep hB5)
            have hnew5 : Hid (∀ (j : Nat) u, [Value.string ⟨V.toArray⟩][j]? = some u → cl.cell? ((⟨wz.heap.size, 0, none⟩ : Addr).add j) = some u) := Lib.hid fun j u hj => by
              rcases j with _ | j
              · cases hj
                rw [hcl]
                exact (Row.new _ _ _).cell 0
              · simp at hj
            have hk5 : W.heap.size ≤ cl.heap.size := Nat.le_trans hbi.size hB5.size
            have HCL := Lib.hid hcl
            clear hcl
            go_wp2_with (at_builtin; rw [← HCL.out]; refine wpList_append_ownK (Kd := strKind) rfl (.tmp 49) (.tmp 51) 37 rfl W.heap.size 9 i1 _ 1 Tryz.underlying37 hi1 hz1 hsz1 rfl (by omega) _ j _ rfl hown5.out ⟨wz.heap.size, 0, none⟩ 1 1 [Value.string ⟨V.toArray⟩] rfl (by simp) hnew5.out (by simp [Value.oneCell']) (by simp [strKind]) (by simp [strKind, Value.cells]) (by omega) (by unfold maxLen; omega) (by rw [hby1]; omega) hk5 ?_; intro v6 w6 hown6 hgr6 hloc6; refine Hid.out ?_)
            have hB6 : Below W.heap.size W w6 := hownr.out.below hbi hB5 hgr6 hbi.size
            have HO6 : Hid (OwnK strKind w6 W.heap.size 9 1 v6 (j + 1) ((ts ++ [V]).map fun x => Value.string ⟨x.toArray⟩)) := by
              rw [List.map_append]
              exact hown6
            have HTG : Hid (∀ x ∈ ts ++ [V], FracGood x ∧ x.length ≤ 20000) := Lib.hid fun x hx => by
              rcases List.mem_append.1 hx with hx | hx
              · exact htg.out x hx
              · rw [List.mem_singleton.1 hx]; exact HVG.out
            have HTL : (ts ++ [V]).length = j + 1 := by rw [List.length_append, htl]; rfl
            clear hown6
            refine Lib.hid ?_
            go_wp2_with fail
            go_roundw
            case rel => exact ⟨j + 1, ts ++ [V], rfl, by omega, HTL, HO6, HTG, hB6⟩
            case measure => simp [intOf]; omega
        · obtain rfl : j = cols := by omega
          obtain ⟨g3, cap3, rfl⟩ := hownr.out.shape (by omega)
          obtain ⟨cl, hcl⟩ : ∃ cl : World, cl = wr.alloc (.cells #[.slice (some ⟨g3, 0, none⟩) j cap3] 37) := ⟨_, rfl⟩
          have hal : Below wr.heap.size wr cl := by rw [hcl]; exact (Below.refl _ _).alloc (Nat.le_refl _) _
          have h04 : Below W.heap.size W cl := hbi.trans (hal.mono hbi.size)
          have hown4 := Lib.hid (hown.out.keep h04)
          have hnew4 : Hid (∀ (i : Nat) u, [Value.slice (some ⟨g3, 0, none⟩) j cap3][i]? = some u → cl.cell? ((⟨wr.heap.size, 0, none⟩ : Addr).add i) = some u) := Lib.hid fun i u hj => by
            rcases i with _ | i
            · cases hj
              rw [hcl]
              exact (Row.new _ _ _).cell 0
            · simp at hj
          have hk4 : w.heap.size ≤ cl.heap.size := Nat.le_trans hbr.size h04.size
          have HCL := Lib.hid hcl
          clear hcl
          go_wp2_with (at_builtin; rw [← HCL.out]; refine wpList_append_ownK (Kd := sliceKind) rfl (.tmp 53) (.tmp 55) 49 rfl w.heap.size 37 i2 _ 1 Tryz.underlying49 hi2 hz2 hsz2 rfl (by omega) _ k _ rfl hown4.out ⟨wr.heap.size, 0, none⟩ 1 1 [Value.slice (some ⟨g3, 0, none⟩) j cap3] rfl (by simp) hnew4.out (by simp [Value.oneCell']) (by simp [sliceKind]) (by simp [sliceKind, Value.cells]) (by omega) (by unfold maxLen; omega) (by rw [hby2]; omega) hk4 ?_; intro v5 w5 hown5 hgr5 hloc5; refine Hid.out ?_)
          have hnx := texts_round hown.out hcel.out hcap.out hgood.out hc0 h04 hownr.out (hal) htl htg.out hown5 hgr5 hbr
          obtain ⟨gn5, cn5, tx5, q1, q2, q3, q4, q5⟩ := hnx
          have Q1 := Lib.hid q1; have Q2 := Lib.hid q2; have Q3 := Lib.hid q3; have Q4 := Lib.hid q4; have Q5 := Lib.hid q5
          clear hown5 q1 q2 q3 q4 q5
          refine Lib.hid ?_
          go_wp2_with fail
          go_roundw
          case rel => exact ⟨k + 1, gn5, cn5, tx5, rfl, by omega, Q1, Q2, Q3, Q4, Q5.out⟩
          case measure => simp [intOf]; omega
    · obtain rfl : k = rows := by omega
      obtain ⟨G, cap, hG⟩ := hown.out.shape hr0
      subst hG
      go_wp2_with fail
      go_ret
      refine ⟨G, cap, gn, cn, tx, rfl, ?_, fun i hi => ?_, hcap.out, fun i j hi hj => ?_, hgood.out, hbr⟩
      · obtain ⟨_, ⟨h1, _⟩ | ⟨g', cap', cur, h1, _, _, h4, _⟩⟩ := hown.out
        · cases h1
        · injection h1 with _ _ h3; omega
      · have := hown.out.own.cells (g := G) rfl i (.slice (some ⟨gn i, 0, none⟩) cols (cn i)) (by
          unfold rowVals
          rw [List.getElem?_map, List.getElem?_range hi]
          rfl)
        rwa [show (⟨G, 0, none⟩ : Addr).add i = ⟨G, 0 + i, none⟩ by simp [Addr.add]; omega] at this
      · rw [Nat.zero_add]; exact hcel.out i j hi hj
end Go.Proofs.YthephiihcgibjaaGreatDoor
