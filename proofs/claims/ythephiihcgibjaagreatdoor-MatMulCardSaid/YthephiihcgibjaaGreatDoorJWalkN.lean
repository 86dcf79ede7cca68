/- Package mat: Mul: products of matrices. And: Package mat: Inverse. Package mat: Inverse: the walk. -/
import Derived.Test.YthephiihcgibjaaGreatDoorJWalkM
import Derived.Test.YthephiihcgibjaaGreatDoorJStepRun
import Derived.Deep.RegionHeld
set_option linter.unusedVariables false
set_option linter.unusedSimpArgs false
namespace Vic
open Go Go.RowKit
/-- a matrix that is read stays when one block, which was no part of it, is turned -/
theorem RGrid.stayO {w w' : World} {G GO rows cols mb : Nat} {T1 : TypeId} {x : Int} {M : Mtx} (h : RGrid w G GO rows cols M) (hrow : Row w mb T1 #[.slice none 0 0, .int .i64 x]) (hT1 : T1 ≠ 150) (hs : ∀ j, j < w.heap.size → j ≠ mb → w'.heap[j]? = w.heap[j]?) : RGrid w' G GO rows cols M := fun i hi => by
  obtain ⟨sv, hsv, g, o, c, rfl, hc, hfr⟩ := h i hi
  have hcell : ∀ b o u, w.cell? ⟨b, o, none⟩ = some u → ((∃ a l c, u = .slice (some a) l c) ∨ ∃ p, u = .pointer p) → w'.cell? ⟨b, o, none⟩ = some u := fun b o u hu hk => by
    have hb : b ≠ mb := by
      rintro rfl
      rw [hrow.cell] at hu
      rcases o with _ | _ | o
      · simp at hu; subst hu; rcases hk with ⟨_, _, _, h⟩ | ⟨_, h⟩ <;> cases h
      · simp at hu; subst hu; rcases hk with ⟨_, _, _, h⟩ | ⟨_, h⟩ <;> cases h
      · simp at hu
    rw [cell_same (hs b (block_lt hu) hb)]; exact hu
  refine ⟨_, hcell _ _ _ hsv (.inl ⟨_, _, _, rfl⟩), g, o, c, rfl, hc, fun k hk => ?_⟩
  obtain ⟨p, hp, hf⟩ := hfr k hk
  refine ⟨p, hcell _ _ _ hp (.inr ⟨_, rfl⟩), hf.stayT fun j hj => ?_⟩
  by_cases e : j = mb
  · subst e
    refine .inl (talien_row hrow hT1 fun u hu => ?_)
    simp at hu
    rcases hu with rfl | rfl <;> exact ⟨fun x => by simp, fun x => by simp⟩
  · exact .inr (hs j hj e)
end Vic
namespace Go.Proofs.YthephiihcgibjaaGreatDoor
open Go.RowKit Vic
set_option maxRecDepth 100000 in
set_option maxHeartbeats 8000000 in
theorem mat_Mul (w : World) (u v : Value) (rows inner cols L : Nat) (M N : Mtx) (h : MatR w u rows inner M) (h2 : MatR w v inner cols N) (hf : ∀ i k, i < rows → k < inner → Fits L (M i k)) (hf2 : ∀ i k, i < inner → k < cols → Fits L (N i k)) (hr0 : 0 < rows) (hi0 : 0 < inner) (hc0 : 0 < cols) (hr : rows ≤ 1000) (hii : inner ≤ 20) (hcc : cols ≤ 1000) (hL : L ≤ 20000000) :
    Calls Tryz.prog 43 #[u, v] w (fun e w' => ∃ z, e = .returned (.tuple #[z, .bool true]) ∧ MatR w' z rows cols (mulM inner M N) ∧ Below w.heap.size w w') := by
  have CT : Hid (∀ W, Below w.heap.size w W → Calls Tryz.prog 46 #[v] W (Gives (fun z w' => MatR w' z cols inner (turnM N)) W)) := Lib.hid fun W hb => mat_Turn W v inner cols N (h2.keep hb) hi0 hc0 (by omega) hcc
  obtain ⟨mb, G, GO, c, rfl, hm0, hrc, hm1, hg⟩ := h
  obtain ⟨nb, G2, GO2, c2, rfl, hn0, hrc2, hn1, hg2⟩ := h2
  have CS := Lib.hid (mat_Size w mb G GO rows inner c hm0 hm1)
  have CS2 : Hid (∀ W, Below w.heap.size w W → Calls Tryz.prog 44 #[.pointer (some ⟨nb, 0, none⟩)] W (fun e w'' => e = .returned (.tuple #[.int .i64 inner, .int .i64 cols]) ∧ ∃ n, w'' = W.drewN n)) := Lib.hid fun W hb => mat_Size W nb G2 GO2 inner cols c2 (cell_keep hn0 hb) (cell_keep hn1 hb)
  have HG := Lib.hid hg
  have HD : Hid (∀ W i k rv cv, i < rows → k < cols → FrIn W rv inner (M i) → FrIn W cv inner (turnM N k) → Calls Tryz.prog 84 #[rv, cv] W (Gives (fun z w' => FracPtr w' z (mulM inner M N i k)) W)) := Lib.hid fun W i k rv cv hi hk hrv hcv => mat_dot W rv cv inner L (M i) (turnM N k) hrv hcv (fun j hj => hf i j hi hj) (fun j hj => hf2 j k hj hk) hii hL
  have hmk : ∀ w, (Instr.makeSlice 54 (.int .i64 cols) (.int .i64 cols)).run Tryz.prog w = .ok (.slice (some ⟨w.heap.size, 0, none⟩) cols cols) (w.alloc (.cells (Array.replicate cols (.pointer none)) 31)) := fun w => mk_pf cols _ rfl (by omega) w
  obtain ⟨i2, hi2, hz2, hsz2, hby2⟩ := info_lpf
  obtain ⟨P, hP⟩ : ∃ P : Mtx, P = mulM inner M N := ⟨_, rfl⟩
  rw [← hP] at HD ⊢
  clear hg hg2 hf hf2 hn0 hn1 hP
  go_enter Tryz.func43, Tryz.ntmps43
  go_wp2_with fail
  refine CS.out.mono ?_
  rintro e w0 ⟨rfl, n0, rfl⟩
  obtain ⟨wa, hwa⟩ : ∃ X, X = w.drewN n0 := ⟨_, rfl⟩
  have hba : Below w.heap.size w wa := by rw [hwa]; exact Vic.Below.drewN_ (Below.refl _ _) _
  rw [← hwa]
  clear hwa CS
  go_wp2_with fail
  refine (CS2.out _ hba).mono ?_
  rintro e wx ⟨rfl, n1, rfl⟩
  obtain ⟨wy, hwy⟩ : ∃ X, X = wa.drewN n1 := ⟨_, rfl⟩
  have hby : Below w.heap.size w wy := by rw [hwy]; exact Vic.Below.drewN_ hba _
  rw [← hwy]
  clear hwy CS2
  obtain ⟨wb, hwb⟩ : ∃ X, X = wy.alloc (.cells #[.slice none 0 0, .int .i64 cols] 122) := ⟨_, rfl⟩
  have hab : Below wy.heap.size wy wb := by rw [hwb]; exact (Below.refl _ _).alloc (Nat.le_refl _) _
  have hrb : Row wb wy.heap.size 122 #[.slice none 0 0, .int .i64 cols] := by rw [hwb]; exact Row.new _ _ _
  have hszb : wb.heap.size = wy.heap.size + 1 := by rw [hwb]; simp
  have hbb := below_seq hby hab
  have HWB := Lib.hid hwb
  clear hwb hba
  go_wp2_with fail
  rw [← HWB.out]
  go_at_call 46
  refine (CT.out _ hbb).mono ?_
  rintro e wt ⟨z, rfl, ⟨tb, TG, TGO, tc, rfl, ht0, htc, ht1, htg⟩, hbt⟩
  have hBt := below_seq hbb hbt
  have hrt := hrb.keep hbt
  have hszt := hbt.size
  have HTG := Lib.hid htg
  have hm0t := cell_keep hm0 hBt
  clear htg hrb HWB CT hbb ht1 hm1
  go_wp2_with fail
  go_loopw [42] (fun t wr => ∃ (k : Nat) (gn cn : Nat → Nat) (cr : Nat → Array Value) (s : Value), t = .int .i64 k ∧ k ≤ rows ∧ Hid (Row wr wy.heap.size 122 #[s, .int .i64 cols]) ∧ Hid (OwnK sliceKind wr wt.heap.size 54 1 s k (rowVals k cols gn cn)) ∧ Hid (RowsK 31 wr wt.heap.size k cols gn cn cr P) ∧ Hid (∀ G', s.ownBlock = some G' → 0 < k ∧ ∀ i, i < k → gn i ≠ G') ∧ wt.heap.size ≤ wr.heap.size ∧ Hid (∀ j, j < wt.heap.size → j ≠ wy.heap.size → wr.heap[j]? = wt.heap[j]?) ∧ Below w.heap.size w wr) (fun t _ => rows - (intOf t).toNat)
  case atStart => exact ⟨0, fun _ => 0, fun _ => 0, fun _ => #[], _, rfl, Nat.zero_le _, Lib.hid hrt, Lib.hid (OwnK.nil_ _ _ _ _ _), Lib.hid (RowsK.none_ _ _ _ _ _ _ _ _), Lib.hid (fun G' hG => by cases hG), Nat.le_refl _, Lib.hid (fun j _ _ => rfl), hBt⟩
  case round =>
    obtain ⟨k, gn, cn, cr, s, rfl, hk, hrow, hown, hrows, hdis, hszr, hsm, hbr⟩ := hrel
    obtain ⟨W, hW⟩ : ∃ X, X = wr := ⟨_, rfl⟩
    subst wr
    by_cases hkr : k < rows
    · have hkr' := Int.ofNat_lt.2 hkr
      obtain ⟨rv, hrv, hfr⟩ := HG.out k hkr
      have hfrW := hfr.keep hbr
      have hrv' := cell_keep hrv hbr
      have HRV := Lib.hid hfrW
      obtain ⟨gr, og, cg, rfl, _, _⟩ := hfr
      have htg := RGrid.stayO (w' := W) HTG.out hrt (by decide) (hsm.out)
      have HTW := Lib.hid htg
      have htb : tb ≠ wy.heap.size := by
        rintro e
        subst e
        rw [hrt.cell] at ht0
        simp at ht0
      have ht0' : W.cell? ⟨tb, 0, none⟩ = some (.slice (some ⟨TG, TGO, none⟩) cols tc) := by
        rw [cell_same (hsm.out tb (block_lt ht0) htb)]; exact ht0
      obtain ⟨w1, hw1⟩ : ∃ X, X = W.alloc (.cells (Array.replicate cols (.pointer none)) 31) := ⟨_, rfl⟩
      have h01 : Below W.heap.size W w1 := by rw [hw1]; exact (Below.refl _ _).alloc (Nat.le_refl _) _
      have hr1 : Row w1 W.heap.size 31 (Array.replicate cols (.pointer none)) := by rw [hw1]; exact Row.new _ _ _
      have HW1 := Lib.hid hw1
      clear hw1 hrv hfrW htg
      go_upto_region 12 with fail
      rw [← HW1.out]
      go_wp2_with fail
      go_loopw [50] (fun t wi => ∃ (j : Nat) (cur : Array Value), t = .int .i64 j ∧ j ≤ cols ∧ Hid (Row wi W.heap.size 31 cur) ∧ Hid (cur.size = cols ∧ ∀ u ∈ cur, ∃ a, u = .pointer a) ∧ Hid (∀ i, i < j → ∃ p, cur[i]? = some (.pointer p) ∧ FracPtr wi (.pointer p) (P k i)) ∧ Below W.heap.size W wi) (fun t _ => cols - (intOf t).toNat)
      case atStart => exact ⟨0, _, rfl, Nat.zero_le _, Lib.hid hr1, Lib.hid ⟨by simp, fun u hu => ⟨none, (Array.mem_replicate.1 hu).2⟩⟩, Lib.hid (fun i hi => by omega), h01⟩
      case round =>
        clear h01 hr1 HW1
        obtain ⟨j, cur, rfl, hj, hrowl, hcur, hval, hbi⟩ := hrel
        by_cases hjc : j < cols
        · have hjc' := Int.ofNat_lt.2 hjc
          obtain ⟨cv, hcv, hfc⟩ := HTW.out j hjc
          have ht0w := cell_keep ht0' hbi
          have hcv' := cell_keep hcv hbi
          have CD := Lib.hid (HD.out wr k j _ cv hkr hjc (HRV.out.keep hbi) (hfc.keep hbi))
          obtain ⟨gc, oc, cc, rfl, _, _⟩ := hfc
          clear hcv
          go_wp2_with fail
          go_at_call 84
          refine CD.out.mono ?_
          rintro e w2 ⟨z, rfl, hz, hb2⟩
          obtain ⟨pz, rfl⟩ := hz.ptr
          have hrow2 := Row.keep hrowl.out hb2
          have hB2 := below_seq hbi hb2
          have hc1 : ∃ u, w2.cell? ⟨W.heap.size, j, none⟩ = some u := by
            rw [hrow2.cell]
            exact ⟨_, Array.getElem?_eq_getElem (by rw [hcur.out.1]; exact hjc)⟩
          obtain ⟨uc, hc1⟩ := hc1
          have hf1 := hrow2.free j
          have HZ := Lib.hid hz; have HR2 := Lib.hid hrow2
          clear CD hz hrow2
          go_wp2_with fail
          have hst : ∀ b, b < w2.heap.size → PAlien w2 b ∨ (w2.setCell ⟨W.heap.size, j, none⟩ (.pointer pz)).heap[b]? = w2.heap[b]? := setCell_stayP fun o u hu => by
            rw [HR2.out.cell] at hu
            exact hcur.out.2 u (Array.mem_of_getElem? hu)
          go_roundw
          case rel =>
            refine ⟨j + 1, cur.setIfInBounds j (.pointer pz), by go_num, by omega, Lib.hid (HR2.out.set j _), Lib.hid ⟨by simp [hcur.out.1], fun u hu => ?_⟩, Lib.hid (fun i hi => ?_), hB2.setCell (p := ⟨W.heap.size, j, none⟩) (Nat.le_refl _) _⟩
            · rcases Array.mem_or_eq_of_mem_setIfInBounds hu with h | h
              · exact hcur.out.2 u h
              · exact ⟨_, h⟩
            · by_cases e : i = j
              · subst e
                exact ⟨pz, by simp [hcur.out.1, hjc], HZ.out.stayP hst⟩
              · obtain ⟨p, h1, h2⟩ := hval.out i (by omega)
                exact ⟨p, by rw [Array.getElem?_setIfInBounds_ne (by omega)]; exact h1, (h2.keep hb2).stayP hst⟩
          case measure => simp [intOf]; omega
        · obtain rfl : j = cols := by omega
          obtain ⟨cl, hcl⟩ : ∃ cl : World, cl = wr.alloc (.cells #[.slice (some ⟨W.heap.size, 0, none⟩) j j] 54) := ⟨_, rfl⟩
          have hal : Below wr.heap.size wr cl := by rw [hcl]; exact (Below.refl _ _).alloc (Nat.le_refl _) _
          have h04 : Below W.heap.size W cl := hbi.trans (hal.mono hbi.size)
          have hown4 := Lib.hid (hown.out.keep h04)
          have hnew4 : Hid (∀ (i : Nat) u, [Value.slice (some ⟨W.heap.size, 0, none⟩) j j][i]? = some u → cl.cell? ((⟨wr.heap.size, 0, none⟩ : Addr).add i) = some u) := Lib.hid fun i u hj => by
            rcases i with _ | i
            · cases hj
              rw [hcl]
              exact (Row.new _ _ _).cell 0
            · simp at hj
          have hk4 : wt.heap.size ≤ cl.heap.size := Nat.le_trans hszr h04.size
          have hrow4 := hrow.out.keep h04
          have hm4 : cl.cell? ⟨wy.heap.size, 0, none⟩ = some s := hrow4.cell 0
          have hm4' : wr.cell? ⟨wy.heap.size, 0, none⟩ = some s := (hrow.out.keep hbi).cell 0
          have hrl4 := Lib.hid (hrowl.out.keep hal)
          have hnewc : Hid (∀ i, i < j → ∃ p, cur[i]? = some p ∧ FracPtr cl p (P k i)) := Lib.hid fun i hi => by
            obtain ⟨p, h1, h2⟩ := hval.out i hi
            exact ⟨_, h1, h2.keep hal⟩
          have HCL := Lib.hid hcl
          clear hcl hrow4
          go_wp2_with (at_builtin; rw [← HCL.out]; refine wpList_append_ownK (Kd := sliceKind) rfl (.tmp 70) (.tmp 72) 120 rfl wt.heap.size 54 i2 _ 1 Tryz.underlying120 hi2 hz2 hsz2 rfl (by omega) _ k _ rfl hown4.out ⟨wr.heap.size, 0, none⟩ 1 1 [Value.slice (some ⟨W.heap.size, 0, none⟩) j j] rfl (by simp) hnew4.out (by simp [Value.oneCell']) (by simp [sliceKind]) (by simp [sliceKind, Value.cells]) (by omega) (by unfold maxLen; omega) (by rw [hby2]; omega) hk4 ?_; intro v5 w5 hown5 hgr5 hloc5; refine Hid.out ?_)
          obtain ⟨g5, cap5, rfl⟩ := hown5.shape (by omega)
          obtain ⟨gn5, cn5, cr5, q1, q2, q3, q4, q5, q6⟩ := rows_round4 hrow.out (by omega) hown.out hrows.out hdis.out hszr h04 hc0 (by decide) (by decide) hrl4.out hcur.out.2 (Nat.le_refl _) (Nat.le_refl _) hnewc.out hown5 hgr5 hloc5
          have hmbs : s.ownBlock ≠ some wy.heap.size := fun e => by have := (hown.out.lt e).1; omega
          have hrow5 : Row w5 wy.heap.size 122 #[s, .int .i64 j] := (hgr5.block _ (hrow.out.keep h04).lt (fun e => hmbs e.symm)).trans (hrow.out.keep h04)
          have hm5 : w5.cell? ⟨wy.heap.size, 0, none⟩ = some s := hrow5.cell 0
          have hfr5 := hrow5.free 0
          have hsm5 : Hid (∀ i, i < wt.heap.size → i ≠ wy.heap.size → (w5.setCell ⟨wy.heap.size, 0, none⟩ (.slice (some ⟨g5, 0, none⟩) (k + 1) cap5)).heap[i]? = wt.heap[i]?) := Lib.hid fun i hi hne => by
            refine (Below.heap_setCell w5 ⟨wy.heap.size, 0, none⟩ _ i hne).trans ((hgr5.block i (Nat.lt_of_lt_of_le hi hk4) (fun e => ?_)).trans ((h04.block i (Nat.lt_of_lt_of_le hi hszr)).trans (hsm.out i hi hne)))
            have := (hown.out.lt e.symm).1
            omega
          have Q1 := Lib.hid q1; have Q2 := Lib.hid q2; have Q3 := Lib.hid q3; have Q4 := Lib.hid q4; have Q6 := Lib.hid (hbr.trans (q6.mono hby.size))
          clear hown5 q1 q2 q3 q4 q6 hrow5
          refine Lib.hid ?_
          go_wp2_with fail
          go_roundw
          case rel => exact ⟨k + 1, gn5, cn5, cr5, _, by go_num, by omega, Q1, Q2, Q3, Q4, q5, hsm5, Q6.out⟩
          case measure => simp [intOf]; omega
    · obtain rfl : k = rows := by omega
      go_wp2_with fail
      go_ret2
      obtain ⟨G', cg, c', rfl, hc', _, _, hg', _⟩ := rows_open hown.out hrows.out hr0
      exact ⟨_, rfl, ⟨_, G', 0, c', rfl, hrow.out.cell 0, hc', hrow.out.cell 1, hg'.rgrid⟩, hbr⟩
set_option maxRecDepth 100000 in
theorem mat_Mul_no (w : World) (u v : Value) (rows inner rows2 cols : Nat) (M N : Mtx) (h : MatR w u rows inner M) (h2 : MatR w v rows2 cols N) (hne : inner ≠ rows2) (hr : rows ≤ 1000) (hii : inner ≤ 1000) (hr2 : rows2 ≤ 1000) (hcc : cols ≤ 1000) :
    Calls Tryz.prog 43 #[u, v] w (Keeps (.tuple #[.pointer none, .bool false]) w) := by
  obtain ⟨mb, G, GO, c, rfl, hm0, hrc, hm1, hg⟩ := h
  obtain ⟨nb, G2, GO2, c2, rfl, hn0, hrc2, hn1, hg2⟩ := h2
  have CS := Lib.hid (mat_Size w mb G GO rows inner c hm0 hm1)
  have CS2 : Hid (∀ W, Below w.heap.size w W → Calls Tryz.prog 44 #[.pointer (some ⟨nb, 0, none⟩)] W (fun e w'' => e = .returned (.tuple #[.int .i64 rows2, .int .i64 cols]) ∧ ∃ n, w'' = W.drewN n)) := Lib.hid fun W hb => mat_Size W nb G2 GO2 rows2 cols c2 (cell_keep hn0 hb) (cell_keep hn1 hb)
  have hne' : ((inner : Int) != (rows2 : Int)) = true := by rw [bne_iff_ne]; omega
  clear hg hg2 hm0 hm1 hn0 hn1
  go_enter Tryz.func43, Tryz.ntmps43
  go_wp2_with fail
  refine CS.out.mono ?_
  rintro e w0 ⟨rfl, n0, rfl⟩
  obtain ⟨wa, hwa⟩ : ∃ X, X = w.drewN n0 := ⟨_, rfl⟩
  have hba : Below w.heap.size w wa := by rw [hwa]; exact Vic.Below.drewN_ (Below.refl _ _) _
  rw [← hwa]
  clear hwa CS
  go_wp2_with fail
  refine (CS2.out _ hba).mono ?_
  rintro e wx ⟨rfl, n1, rfl⟩
  obtain ⟨wy, hwy⟩ : ∃ X, X = wa.drewN n1 := ⟨_, rfl⟩
  have hby : Below w.heap.size w wy := by rw [hwy]; exact Vic.Below.drewN_ hba _
  rw [← hwy]
  clear hwy CS2
  go_wp2_with fail
  go_ret2
  exact ⟨rfl, hby⟩
end Go.Proofs.YthephiihcgibjaaGreatDoor
set_option linter.unusedVariables false
set_option linter.unusedSimpArgs false
namespace Go.Proofs.YthephiihcgibjaaGreatDoor
open Go.RowKit Vic
set_option maxRecDepth 100000 in
set_option maxHeartbeats 4000000 in
theorem mat_Inverse_c1 (w : World) (cv n i : Nat) (hc : w.cell? ⟨cv, 0, none⟩ = some (.int .i64 n)) (hi : i < n) (hn : n ≤ 1000) :
    Calls Tryz.prog 97 #[.int .i64 i, .pointer (some ⟨cv, 0, none⟩)] w (TailMade n (delta i) w) := by
  have hmk : ∀ w, (Instr.makeSlice 54 (.int .i64 n) (.int .i64 n)).run Tryz.prog w = .ok (.slice (some ⟨w.heap.size, 0, none⟩) n n) (w.alloc (.cells (Array.replicate n (.pointer none)) 31)) := fun w => mk_pf n _ rfl (by omega) w
  have C0 : Hid (∀ W, Calls Tryz.prog 23 #[.int .i64 0] W (Gives (fun z w' => FracPtr w' z 0) W)) := Lib.hid fun W => frac_Of W 0 (by omega) (by omega)
  have C1 : Hid (∀ W, Calls Tryz.prog 23 #[.int .i64 1] W (Gives (fun z w' => FracPtr w' z 1) W)) := Lib.hid fun W => frac_Of W 1 (by omega) (by omega)
  obtain ⟨wb, hwb⟩ : ∃ X, X = w.alloc (.cells (Array.replicate n (.pointer none)) 31) := ⟨_, rfl⟩
  have hbb : Below w.heap.size w wb := by rw [hwb]; exact (Below.refl _ _).alloc (Nat.le_refl _) _
  have hrb : Row wb w.heap.size 31 (Array.replicate n (.pointer none)) := by rw [hwb]; exact Row.new _ _ _
  have HWB := Lib.hid hwb
  clear hwb
  go_enter Tryz.func97, Tryz.ntmps97
  go_upto_region 2 with fail
  rw [← HWB.out]
  go_wp2_with fail
  go_loopw [10] (fun t wr => ∃ (k : Nat) (cur : Array Value), t = .int .i64 k ∧ k ≤ n ∧ Hid (Row wr w.heap.size 31 cur) ∧ Hid (cur.size = n ∧ ∀ u ∈ cur, ∃ a, u = .pointer a) ∧ Hid (∀ i, i < k → ∃ p, cur[i]? = some (.pointer p) ∧ FracPtr wr (.pointer p) 0) ∧ Below w.heap.size w wr) (fun t _ => n - (intOf t).toNat)
  case atStart => exact ⟨0, _, rfl, Nat.zero_le _, Lib.hid hrb, Lib.hid ⟨by simp, fun u hu => ⟨none, (Array.mem_replicate.1 hu).2⟩⟩, Lib.hid (fun i hi => by omega), hbb⟩
  case round =>
    clear hrb HWB hbb hmk
    obtain ⟨k, cur, rfl, hk, hrow, hcur, hval, hbr⟩ := hrel
    by_cases hlt : k < n
    case' pos =>
      have hlt' := Int.ofNat_lt.2 hlt
      go_wp2_with fail
      go_at_call 23
      refine (C0.out _).mono ?_
      rintro e w1 ⟨z, rfl, hz, hb1⟩
      obtain ⟨k', hk'⟩ : ∃ k', k' = k := ⟨_, rfl⟩
    case' neg =>
      obtain rfl : k = n := by omega
      have hi' := Int.ofNat_lt.2 hi
      go_wp2_with fail
      go_at_call 23
      refine (C1.out _).mono ?_
      rintro e w1 ⟨z, rfl, hz, hb1⟩
      obtain ⟨k', hk'⟩ : ∃ k', k' = i := ⟨_, rfl⟩
    all_goals
      obtain ⟨pz, rfl⟩ := hz.ptr
      have hrow1 := Row.keep hrow.out hb1
      have hB1 := below_seq hbr hb1
      have hc1 : ∃ u, w1.cell? ⟨w.heap.size, k', none⟩ = some u := by
        rw [hrow1.cell]
        exact ⟨_, Array.getElem?_eq_getElem (by rw [hcur.out.1]; omega)⟩
      obtain ⟨uc, hc1⟩ := hc1
      have hf1 := hrow1.free k'
      have HZ := Lib.hid hz; have HR1 := Lib.hid hrow1
      have hst : Hid (∀ b, b < w1.heap.size → PAlien w1 b ∨ (w1.setCell ⟨w.heap.size, k', none⟩ (.pointer pz)).heap[b]? = w1.heap[b]?) := Lib.hid (setCell_stayP fun o u hu => by
        rw [HR1.out.cell] at hu
        exact hcur.out.2 u (Array.mem_of_getElem? hu))
      have hB2 := Lib.hid (hB1.setCell (p := ⟨w.heap.size, k', none⟩) (Nat.le_refl _) (.pointer pz))
      clear hz hrow1
      subst k'
      go_wp2_with fail
    · go_ret
      have hv : ∀ j, j < k → ∃ p, (w1.setCell ⟨w.heap.size, i, none⟩ (.pointer pz)).cell? ⟨w.heap.size, 0 + j, none⟩ = some (.pointer p) ∧ FracPtr (w1.setCell ⟨w.heap.size, i, none⟩ (.pointer pz)) (.pointer p) (delta i j) := fun j hj => by
        have hr2 := HR1.out.set i (.pointer pz)
        rw [Nat.zero_add]
        by_cases e : j = i
        · subst e
          rw [delta_self]
          exact ⟨pz, by rw [hr2.cell]; simp [hcur.out.1, hj], HZ.out.stayP hst.out⟩
        · obtain ⟨p, h1, h2⟩ := hval.out j hj
          rw [delta_ne (Ne.symm e)]
          exact ⟨p, by rw [hr2.cell, Array.getElem?_setIfInBounds_ne (by omega)]; exact h1, (h2.keep hb1).stayP hst.out⟩
      obtain ⟨ps, hpl, hps⟩ := frs_ptrs hv k (Nat.le_refl _)
      exact ⟨_, ps, rfl, ⟨hpl, .inr ⟨by omega, _, 0, _, rfl, fun j p hj => (hps j p hj).1⟩⟩, fun j p hj => (hps j p hj).2, hB2.out⟩
    · go_roundw
      case rel =>
        refine ⟨k + 1, cur.setIfInBounds k (.pointer pz), by go_num, by omega, Lib.hid (HR1.out.set k _), Lib.hid ⟨by simp [hcur.out.1], fun u hu => ?_⟩, Lib.hid (fun i hi => ?_), hB2.out⟩
        · rcases Array.mem_or_eq_of_mem_setIfInBounds hu with h | h
          · exact hcur.out.2 u h
          · exact ⟨_, h⟩
        · by_cases e : i = k
          · subst e
            exact ⟨pz, by simp [hcur.out.1, hlt], HZ.out.stayP hst.out⟩
          · obtain ⟨p, h1, h2⟩ := hval.out i (by omega)
            exact ⟨p, by rw [Array.getElem?_setIfInBounds_ne (by omega)]; exact h1, (h2.keep hb1).stayP hst.out⟩
      case measure => simp [intOf]; omega
end Go.Proofs.YthephiihcgibjaaGreatDoor
set_option linter.unusedVariables false
set_option linter.unusedSimpArgs false
namespace Vic
open Go Go.RowKit
/-- the slice of the rows in a variable is one longer: what was there of pointers stays -/
theorem one_more {T1 T2 : TypeId} {B B0 k mb : Nat} {f : Nat → Value} {w0 W cl w5 : World} {s v5 : Value} {x : Int} (hrow : Row W mb T1 #[s, .int .i64 x]) (hmb : mb < B) (hown : OwnK sliceKind W B T2 1 s k ((List.range k).map f)) (h04 : Below W.heap.size W cl)
    (hown5 : OwnK sliceKind w5 B T2 1 v5 (k + 1) ((List.range k).map f ++ [f k])) (hgr : cl.grownBy w5 s.ownBlock) (hbr : Below B0 w0 W) (h0 : B0 ≤ mb) :
    Row (w5.setCell ⟨mb, 0, none⟩ v5) mb T1 #[v5, .int .i64 x] ∧ OwnK sliceKind (w5.setCell ⟨mb, 0, none⟩ v5) B T2 1 v5 (k + 1) ((List.range (k + 1)).map f) ∧ Below B0 w0 (w5.setCell ⟨mb, 0, none⟩ v5) ∧ Row w5 mb T1 #[s, .int .i64 x] := by
  have hrow4 := hrow.keep h04
  have hmbs : s.ownBlock ≠ some mb := fun e => by have := (hown.lt e).1; omega
  have h5 : Row w5 mb T1 #[s, .int .i64 x] := (hgr.block mb hrow4.lt (fun e => hmbs e.symm)).trans hrow4
  refine ⟨h5.set 0 v5, ?_, ?_, h5⟩
  · rw [List.range_succ, List.map_append]
    exact hown5.stay fun g hg => Below.heap_setCell w5 ⟨mb, 0, none⟩ v5 g (fun e => by have := (hown5.lt hg).1; have e' : g = mb := e; omega)
  · have hs1 : B0 ≤ W.heap.size := Nat.le_trans h0 (Nat.le_of_lt hrow.lt)
    have h1 := hbr.trans (h04.mono hs1)
    have hs : B0 ≤ cl.heap.size := Nat.le_trans hs1 h04.size
    refine Below.setCell (p := ⟨mb, 0, none⟩) ⟨hgr.os.trans h1.os, hgr.tape.trans h1.tape, hgr.output.trans h1.output, Nat.le_trans h1.size hgr.size, fun j hj => (hgr.block j (by omega) (fun e => ?_)).trans (h1.block j hj)⟩ h0 _
    have := (hown.lt e.symm).1
    omega
theorem invM_eq (n : Nat) (M : Mtx) (i k : Nat) : invM n M i k = (redGo n n n 0 (aug M delta n)).2 i (n + k) := rfl
theorem rank_aug (n : Nat) (M : Mtx) : (redGo n n n 0 (aug M delta n)).1 = rankM n n M := rank_agree fun i k hi hk => by unfold aug; rw [if_pos hk]
theorem fits_delta (i k : Nat) : Fits 2 (delta i k) := by
  unfold delta; split
  · exact fits_of (n := 1) (by omega) (by omega)
  · exact fits_of (n := 0) (by omega) (by omega)
/-- what Inverse tells -/
def Inverted (n : Nat) (M : Mtx) (w : World) (e : Ending) (w' : World) : Prop :=
  Below w.heap.size w w' ∧ ((rankM n n M ≠ n ∧ e = .returned (.tuple #[.pointer none, .bool false])) ∨ (rankM n n M = n ∧ ∃ z, e = .returned (.tuple #[z, .bool true]) ∧ MatR w' z n n (invM n M)))
end Vic
namespace Go.Proofs.YthephiihcgibjaaGreatDoor
open Go.RowKit Vic
theorem enters_Inverse_c1 : ∀ args w, (callFunc 97 args).run Tryz.prog w = .ok (.enter 97 args) w := enters_of Tryz.func97 (by kernel_rfl) rfl
abbrev vinv5_0 : Oper := { dst := some 21, op := Go.Op.move (Go.Operand.tmp 6), type := 120, pos := "mat.go:183", after := #[], guard := none }
abbrev vinv5_1 : Oper := { dst := some 22, op := Go.Op.move (Go.Operand.tmp 5), type := 3, pos := "mat.go:183", after := #[], guard := none }
abbrev vinv5_2 : Oper := { dst := some 23, op := Go.Op.call { callee := Go.Callee.value (Go.Operand.func 95), args := #[Go.Operand.tmp 21, Go.Operand.tmp 22], argTypes := #[120, 3] }, type := 3, pos := "mat.go:183", after := #[{ on := 0, ground := Go.Ground.data }, { on := 1, ground := Go.Ground.data }], guard := none }
abbrev vinv5_3 : Oper := { dst := some 24, op := Go.Op.load 3 (Go.Operand.tmp 4), type := 3, pos := "mat.go:183", after := #[], guard := none }
abbrev vinv5_4 : Oper := { dst := some 25, op := Go.Op.binOp Go.BinOp.lss 3 (Go.Operand.tmp 23) (Go.Operand.tmp 24) 3, type := 4, pos := "mat.go:183", after := #[{ on := 2, ground := Go.Ground.data }, { on := 3, ground := Go.Ground.data }], guard := none }
abbrev vinv11_0 : Oper := { dst := some 35, op := Go.Op.move (Go.Operand.tmp 7), type := 51, pos := "mat.go:188", after := #[], guard := none }
abbrev vinv11_1 : Oper := { dst := some 36, op := Go.Op.move (Go.Operand.tmp 7), type := 51, pos := "mat.go:188", after := #[], guard := none }
abbrev vinv11_2 : Oper := { dst := some 37, op := Go.Op.nilCheck (Go.Operand.tmp 36), type := 0, pos := "mat.go:188", after := #[{ on := 1, ground := Go.Ground.data }], guard := none }
abbrev vinv11_3 : Oper := { dst := some 38, op := Go.Op.fieldAddr 122 (Go.Operand.tmp 37) 0, type := 0, pos := "mat.go:188", after := #[{ on := 2, ground := Go.Ground.data }], guard := none }
abbrev vinv11_4 : Oper := { dst := some 39, op := Go.Op.load 120 (Go.Operand.tmp 38), type := 120, pos := "mat.go:188", after := #[{ on := 3, ground := Go.Ground.data }], guard := none }
abbrev vinv11_5 : Oper := { dst := some 40, op := Go.Op.move (Go.Operand.tmp 9), type := 54, pos := "mat.go:188", after := #[], guard := none }
abbrev vinv11_6 : Oper := { dst := some 41, op := Go.Op.move (Go.Operand.tmp 5), type := 3, pos := "mat.go:188", after := #[], guard := none }
abbrev vinv11_7 : Oper := { dst := some 42, op := Go.Op.slice 54 (Go.Operand.tmp 40) (some (Go.Operand.tmp 41)) none none, type := 54, pos := "mat.go:188", after := #[{ on := 5, ground := Go.Ground.data }, { on := 6, ground := Go.Ground.data }], guard := none }
abbrev vinv11_8 : Oper := { dst := some 43, op := Go.Op.buildSlice 120 1 #[(0, Go.Operand.tmp 42)], type := 120, pos := "mat.go:188", after := #[{ on := 7, ground := Go.Ground.data }], guard := none }
abbrev vinv11_9 : Oper := { dst := some 44, op := Go.Op.call { callee := Go.Callee.builtin Go.Builtin.append, args := #[Go.Operand.tmp 39, Go.Operand.tmp 43], argTypes := #[120, 120] }, type := 120, pos := "mat.go:188", after := #[{ on := 4, ground := Go.Ground.data }, { on := 8, ground := Go.Ground.data }], guard := none }
abbrev vinv11_10 : Oper := { dst := some 45, op := Go.Op.nilCheck (Go.Operand.tmp 35), type := 0, pos := "mat.go:188", after := #[{ on := 0, ground := Go.Ground.data }, { on := 0, ground := Go.Ground.phase }, { on := 1, ground := Go.Ground.phase }, { on := 2, ground := Go.Ground.phase }, { on := 3, ground := Go.Ground.phase }, { on := 4, ground := Go.Ground.phase }, { on := 5, ground := Go.Ground.phase }, { on := 6, ground := Go.Ground.phase }, { on := 7, ground := Go.Ground.phase }, { on := 8, ground := Go.Ground.phase }, { on := 9, ground := Go.Ground.phase }], guard := none }
abbrev vinv11_11 : Oper := { dst := some 46, op := Go.Op.fieldAddr 122 (Go.Operand.tmp 45) 0, type := 0, pos := "mat.go:188", after := #[{ on := 10, ground := Go.Ground.data }, { on := 0, ground := Go.Ground.phase }, { on := 1, ground := Go.Ground.phase }, { on := 2, ground := Go.Ground.phase }, { on := 3, ground := Go.Ground.phase }, { on := 4, ground := Go.Ground.phase }, { on := 5, ground := Go.Ground.phase }, { on := 6, ground := Go.Ground.phase }, { on := 7, ground := Go.Ground.phase }, { on := 8, ground := Go.Ground.phase }, { on := 9, ground := Go.Ground.phase }], guard := none }
abbrev vinv11_12 : Oper := { dst := none, op := Go.Op.store 120 (Go.Operand.tmp 46) (Go.Operand.tmp 44), type := 0, pos := "mat.go:188", after := #[{ on := 11, ground := Go.Ground.data }, { on := 9, ground := Go.Ground.data }, { on := 9, ground := Go.Ground.chain }, { on := 0, ground := Go.Ground.phase }, { on := 1, ground := Go.Ground.phase }, { on := 2, ground := Go.Ground.phase }, { on := 3, ground := Go.Ground.phase }, { on := 4, ground := Go.Ground.phase }, { on := 5, ground := Go.Ground.phase }, { on := 6, ground := Go.Ground.phase }, { on := 7, ground := Go.Ground.phase }, { on := 8, ground := Go.Ground.phase }, { on := 9, ground := Go.Ground.phase }], guard := none }
set_option maxRecDepth 100000 in
set_option maxHeartbeats 8000000 in
theorem mat_Inverse (w : World) (u : Value) (n L : Nat) (M : Mtx) (h : MatR w u n n M) (hf : FitsM L n n M) (hL1 : 2 ≤ L) (hL : L * 5 ^ n ≤ 1000000000) (hn0 : 0 < n) (hn : n ≤ 10) :
    Calls Tryz.prog 47 #[u] w (Inverted n M w) := by
  obtain ⟨mb, G, GO, c, rfl, hm0, hrc, hm1, hg⟩ := h
  have CS := Lib.hid (mat_Size w mb G GO n n c hm0 hm1)
  have HF : Hid (FitsM L n (n + n) (aug M delta n)) := fits_aug hf fun i k _ _ => (fits_delta i k).mono hL1
  have CC : Hid (∀ w' cv, Below w.heap.size w w' → w'.cell? ⟨cv, 0, none⟩ = some (.int .i64 n) → Calls Tryz.prog 93 #[.pointer (some ⟨mb, 0, none⟩), .func (.func 97) #[] #[.pointer (some ⟨cv, 0, none⟩)]] w' (CopiedTo w'.heap.size n (n + n) (aug M delta n) w')) := Lib.hid fun w' cv hb hcv =>
    mat_copied w' mb G GO n n c 97 n #[.pointer (some ⟨cv, 0, none⟩)] M delta (cell_keep hm0 hb) (cell_keep hm1 hb) (hg.keep hb) (fun i hi w2 hb2 => mat_Inverse_c1 w2 cv n i (cell_keep hcv hb2) hi (by omega)) enters_Inverse_c1 hrc (by omega) (by omega) hn0 (by omega)
  obtain ⟨i2, hi2, hz2, hsz2, hby2⟩ := info_lpf
  obtain ⟨R, hR⟩ : ∃ R, R = redGo n n n 0 (aug M delta n) := ⟨_, rfl⟩
  have HR := Lib.hid hR
  clear hg hf hR
  go_enter Tryz.func47, Tryz.ntmps47
  go_wp2_with fail
  refine CS.out.mono ?_
  rintro e w0 ⟨rfl, n0, rfl⟩
  obtain ⟨wa, hwa⟩ : ∃ X, X = w.drewN n0 := ⟨_, rfl⟩
  have hba : Below w.heap.size w wa := by rw [hwa]; exact Vic.Below.drewN_ (Below.refl _ _) _
  rw [← hwa]
  clear hwa CS
  obtain ⟨wb, hwb⟩ : ∃ X, X = wa.alloc (.cells #[.int .i64 n] 3) := ⟨_, rfl⟩
  have hab : Below wa.heap.size wa wb := by rw [hwb]; exact (Below.refl _ _).alloc (Nat.le_refl _) _
  have hrb : Row wb wa.heap.size 3 #[.int .i64 n] := by rw [hwb]; exact Row.new _ _ _
  have hszb : wb.heap.size = wa.heap.size + 1 := by rw [hwb]; simp
  have hbb := below_seq hba hab
  have HWB := Lib.hid hwb
  have C1 := Lib.hid (CC.out wb wa.heap.size hbb (hrb.cell 0))
  unfold CopiedTo at C1
  have hv0 := hrb.cell 0
  clear hwb CC
  go_upto_region 2 with fail
  rw [← HWB.out]
  go_wp2_with fail
  refine C1.out.mono ?_
  rintro e w1 ⟨v, rfl, g1, cap1, cur1, ho1, hr1, _, hb1⟩
  obtain ⟨G1, cg1, c1, rfl, hc1, hrow1, hk1, hg1, hBG⟩ := rows_open ho1 hr1 hn0
  have CR0 : Hid (∀ W, Below w1.heap.size w1 W → Calls Tryz.prog 95 #[.slice (some ⟨G1, 0, none⟩) n c1, .int .i64 n] W (fun e w' => ∃ g cap cur, e = .returned (.int .i64 (R.1 : Nat)) ∧ Grid 31 w' G1 0 wb.heap.size n (n + n) g cap cur R.2 ∧ Below wb.heap.size W w')) := Lib.hid fun W hW => by
    have := mat_reduced W G1 wb.heap.size n (n + n) n c1 g1 cap1 cur1 cg1 _ L (hg1.keep hW) (hrow1.keep hW) hk1 (Nat.le_trans hb1.size hW.size) hBG HF.out (by omega) hL (by omega) hc1 (by omega) (by omega)
    rw [← HR.out] at this
    exact this
  have hrv := Lib.hid (hrb.keep hb1)
  have hB1 := below_seq hbb hb1
  have HSZ : Hid (wa.heap.size < wb.heap.size ∧ wb.heap.size ≤ w1.heap.size) := Lib.hid ⟨by omega, hb1.size⟩
  have HB1 := Lib.hid hb1
  have hrle : R.1 ≤ n := by rw [HR.out]; exact rank_le_rows n n _
  obtain ⟨r, hr⟩ : ∃ r, r = R.1 := ⟨_, rfl⟩
  rw [← hr] at CR0 hrle
  have HRR := Lib.hid hr
  have HCV : Hid (∀ W, Below wb.heap.size w1 W → W.cell? ⟨wa.heap.size, 0, none⟩ = some (.int .i64 n)) := Lib.hid fun W h => by
    rw [cell_same (h.block _ HSZ.out.1)]; exact hrv.out.cell 0
  clear ho1 hr1 hg1 hrow1 hk1 hBG hv0 hrb hszb HWB C1 hr
  go_wp2_with fail
  refine wp_region_held (S := fun W => Below wb.heap.size w1 W) (by kernel_rfl) ?_
  change wpAnyH _ _ _ _ _ _ _ _ (World.drew _)
  obtain ⟨W0, hW0⟩ : ∃ X, X = (w1).drew := ⟨_, rfl⟩
  rw [← hW0]
  have z0 : Below (w1).heap.size (w1) W0 := by rw [hW0]; exact Below.drewN_ (Below.refl _ _) 1
  clear hW0
  refine wpAnyH_take (i := 0) (oi := vinv5_0) (v := .slice (some ⟨G1, 0, none⟩) n c1) rfl (by kernel_rfl) (by kernel_rfl) (by kernel_rfl) (fun _ _ _ h => h) (Or.inl ⟨by kernel_rfl, ?_⟩) ((z0.mono HSZ.out.2)) ?_
  · intro w hSw; go_simp <;> first | omega | (intro hh; exfalso; omega) | rfl
  try simp only [Act.put, List.setIfInBounds_toArray, List.set_cons_zero, List.set_cons_succ, vinv5_0]
  refine wpAnyH_take (i := 1) (oi := vinv5_1) (v := .int .i64 n) rfl (by kernel_rfl) (by kernel_rfl) (by kernel_rfl) (fun _ _ _ h => h) (Or.inl ⟨by kernel_rfl, ?_⟩) ((z0.mono HSZ.out.2)) ?_
  · intro w hSw; go_simp <;> first | omega | (intro hh; exfalso; omega) | rfl
  try simp only [Act.put, List.setIfInBounds_toArray, List.set_cons_zero, List.set_cons_succ, vinv5_1]
  refine wpAnyH_take (i := 3) (oi := vinv5_3) (v := .int .i64 n) rfl (by kernel_rfl) (by kernel_rfl) (by kernel_rfl) (fun _ _ _ h => h) (Or.inl ⟨by kernel_rfl, ?_⟩) ((z0.mono HSZ.out.2)) ?_
  · intro w hSw; have e0 := HCV.out w hSw; go_simp <;> first | omega | (intro hh; exfalso; omega) | rfl
  try simp only [Act.put, List.setIfInBounds_toArray, List.set_cons_zero, List.set_cons_succ, vinv5_3]
  refine wpAnyH_ready (rs := [2]) (by kernel_rfl) (by simp) ?_
  apply AllReadyH.cons (o := vinv5_2) (by kernel_rfl)
  case hs => exact AllReadyH.nil
  intro K hK
  simp only [vinv5_2]
  go_simp
  go_at_call 95
  refine (CR0.out _ z0).mono ?_
  rintro e' w2 ⟨g2, cap2, cur2, rfl, hg2, hb2⟩
  have z2 : Below wb.heap.size w1 w2 := (z0.mono HSZ.out.2).trans hb2
  have HG2 := Lib.hid hg2
  clear hg2
  refine hK.out _ _ (z2) (fun hHeld => ?_)
  clear hK K hHeld
  try simp only [Act.put, List.setIfInBounds_toArray, List.set_cons_zero, List.set_cons_succ]
  refine wpAnyH_take (i := 4) (oi := vinv5_4) (v := .bool (decide ((r : Int) < (n : Int)))) rfl (by kernel_rfl) (by kernel_rfl) (by kernel_rfl) (fun _ _ _ h => h) (Or.inl ⟨by kernel_rfl, ?_⟩) (z2) ?_
  · intro w hSw; go_simp <;> first | omega | (intro hh; exfalso; omega) | rfl
  try simp only [Act.put, List.setIfInBounds_toArray, List.set_cons_zero, List.set_cons_succ, vinv5_4]
  refine wpAnyH_done (by kernel_rfl) ?_ _
  have HB2 : Hid (Below w.heap.size w w2) := Lib.hid (hB1.trans (z2.mono (Nat.le_trans hbb.size (Nat.le_refl _))))
  clear z2 hb2
  by_cases hlt : r < n
  case' pos =>
    have hlt' : ((r : Nat) : Int) < ((n : Nat) : Int) := Int.ofNat_lt.2 hlt
    have HNE : Hid (rankM n n M ≠ n) := Lib.hid (by rw [← rank_aug, ← HR.out, ← HRR.out]; omega)
    go_wp2_with fail
    go_ret2
    exact ⟨HB2.out, .inl ⟨HNE.out, rfl⟩⟩
  case' neg =>
    obtain rfl : r = n := by omega
    have HEQ : Hid (rankM r r M = r) := Lib.hid (by rw [← rank_aug, ← HR.out, ← HRR.out])
    have hlt' : ¬ ((r : Nat) : Int) < ((r : Nat) : Int) := by omega
    obtain ⟨f, hf⟩ : ∃ f : Nat → Value, f = fun i => .slice (some ⟨g2 i, r, none⟩) r (cap2 i - r) := ⟨_, rfl⟩
    have HFR : Hid (∀ i, i < r → FrIn w2 (f i) r (invM r M i)) := Lib.hid fun i hi => by
      rw [hf]
      refine ⟨g2 i, r, cap2 i - r, rfl, by have := HG2.out.caps i hi; omega, fun k hk => ?_⟩
      obtain ⟨a, h1, _, h3⟩ := HG2.out.cell hi (show r + k < r + r by omega)
      rw [invM_eq, ← HR.out]
      exact ⟨a, h1, h3⟩
    have HFE := Lib.hid hf
    clear hf
    obtain ⟨wc, hwc⟩ : ∃ X, X = w2.alloc (.cells #[.slice none 0 0, .int .i64 r] 122) := ⟨_, rfl⟩
    have h2c : Below w2.heap.size w2 wc := by rw [hwc]; exact (Below.refl _ _).alloc (Nat.le_refl _) _
    have hrc0 : Row wc w2.heap.size 122 #[.slice none 0 0, .int .i64 r] := by rw [hwc]; exact Row.new _ _ _
    have hszc : wc.heap.size = w2.heap.size + 1 := by rw [hwc]; simp
    have HWC := Lib.hid hwc
    clear hwc
    go_upto_region 8 with fail
    rw [← HWC.out]
    go_wp2_with fail
    go_loopw [31] (fun t wr => ∃ (k : Nat) (s : Value), t = .int .i64 k ∧ k ≤ r ∧ Hid (Row wr w2.heap.size 122 #[s, .int .i64 r]) ∧ Hid (OwnK sliceKind wr (w2.heap.size + 1) 54 1 s k ((List.range k).map f)) ∧ w2.heap.size + 1 ≤ wr.heap.size ∧ Below w2.heap.size w2 wr) (fun t _ => r - (intOf t).toNat)
    case atStart => exact ⟨0, _, rfl, Nat.zero_le _, Lib.hid hrc0, Lib.hid (OwnK.nil_ _ _ _ _ _), by omega, h2c⟩
    case round =>
      clear hrc0 h2c hszc HWC
      obtain ⟨k, s, rfl, hk, hrow, hown, hszr, hbr⟩ := hrel
      by_cases hkr : k < r
      · have hkr' := Int.ofNat_lt.2 hkr
        have ho := (HG2.out.keep hbr).outer k hkr
        rw [Nat.zero_add] at ho
        have hcap := HG2.out.caps k hkr
        have hfk : Hid (f k = .slice (some ⟨g2 k, r, none⟩) r (cap2 k - r)) := Lib.hid (by rw [HFE.out])
        have hcr : (cap2 k = r) = False := by simp; omega
        have HMB : Hid (∀ W, Below wr.heap.size wr W → Row W w2.heap.size 122 #[s, .int .i64 r]) := Lib.hid fun W h => hrow.out.keep h
        have hs : ∃ A l c, s = .slice A l c := by
          obtain ⟨_, ⟨rfl, _⟩ | ⟨g, cap, cur, rfl, _⟩⟩ := hown.out
          · exact ⟨_, _, _, rfl⟩
          · exact ⟨_, _, _, rfl⟩
        obtain ⟨As, ls, cs, rfl⟩ := hs
        go_wp2_with fail
        refine wp_region_any (by kernel_rfl) ?_
        change wpAny _ _ _ _ _ _ _ (World.drew _)
        obtain ⟨W9, hW9⟩ : ∃ X, X = (wr).drew := ⟨_, rfl⟩
        rw [← hW9]
        have z9 : Below (wr).heap.size (wr) W9 := by rw [hW9]; exact Below.drewN_ (Below.refl _ _) 1
        clear hW9
        refine wpAny_take (i := 0) (oi := vinv11_0) (v := .pointer (some ⟨w2.heap.size, 0, none⟩)) rfl (by kernel_rfl) (by kernel_rfl) (by kernel_rfl) (fun _ _ _ h => h) (Or.inl ⟨by kernel_rfl, ?_⟩) ?_
        · intro w; go_simp <;> first | omega | (intro hh; exfalso; omega) | rfl
        try simp only [Act.put, List.setIfInBounds_toArray, List.set_cons_zero, List.set_cons_succ, vinv11_0]
        refine wpAny_take (i := 1) (oi := vinv11_1) (v := .pointer (some ⟨w2.heap.size, 0, none⟩)) rfl (by kernel_rfl) (by kernel_rfl) (by kernel_rfl) (fun _ _ _ h => h) (Or.inl ⟨by kernel_rfl, ?_⟩) ?_
        · intro w; go_simp <;> first | omega | (intro hh; exfalso; omega) | rfl
        try simp only [Act.put, List.setIfInBounds_toArray, List.set_cons_zero, List.set_cons_succ, vinv11_1]
        refine wpAny_take (i := 2) (oi := vinv11_2) (v := .pointer (some ⟨w2.heap.size, 0, none⟩)) rfl (by kernel_rfl) (by kernel_rfl) (by kernel_rfl) (fun _ _ _ h => h) (Or.inl ⟨by kernel_rfl, ?_⟩) ?_
        · intro w; go_simp <;> first | omega | (intro hh; exfalso; omega) | rfl
        try simp only [Act.put, List.setIfInBounds_toArray, List.set_cons_zero, List.set_cons_succ, vinv11_2]
        refine wpAny_take (i := 3) (oi := vinv11_3) (v := .pointer (some ⟨w2.heap.size, 0, none⟩)) rfl (by kernel_rfl) (by kernel_rfl) (by kernel_rfl) (fun _ _ _ h => h) (Or.inl ⟨by kernel_rfl, ?_⟩) ?_
        · intro w; go_simp <;> first | omega | (intro hh; exfalso; omega) | rfl
        try simp only [Act.put, List.setIfInBounds_toArray, List.set_cons_zero, List.set_cons_succ, vinv11_3]
        refine wpAny_take (i := 5) (oi := vinv11_5) (v := .slice (some ⟨g2 k, 0, none⟩) (r + r) (cap2 k)) rfl (by kernel_rfl) (by kernel_rfl) (by kernel_rfl) (fun _ _ _ h => h) (Or.inl ⟨by kernel_rfl, ?_⟩) ?_
        · intro w; go_simp <;> first | omega | (intro hh; exfalso; omega) | rfl
        try simp only [Act.put, List.setIfInBounds_toArray, List.set_cons_zero, List.set_cons_succ, vinv11_5]
        refine wpAny_take (i := 6) (oi := vinv11_6) (v := .int .i64 r) rfl (by kernel_rfl) (by kernel_rfl) (by kernel_rfl) (fun _ _ _ h => h) (Or.inl ⟨by kernel_rfl, ?_⟩) ?_
        · intro w; go_simp <;> first | omega | (intro hh; exfalso; omega) | rfl
        try simp only [Act.put, List.setIfInBounds_toArray, List.set_cons_zero, List.set_cons_succ, vinv11_6]
        refine wpAny_take (i := 7) (oi := vinv11_7) (v := .slice (some ⟨g2 k, r, none⟩) r (cap2 k - r)) rfl (by kernel_rfl) (by kernel_rfl) (by kernel_rfl) (fun _ _ _ h => h) (Or.inl ⟨by kernel_rfl, ?_⟩) ?_
        · intro w; go_simp <;> first | omega | (intro hh; exfalso; omega) | rfl
        try simp only [Act.put, List.setIfInBounds_toArray, List.set_cons_zero, List.set_cons_succ, vinv11_7]
        refine wpAny_ready (rs := [4, 8]) (by kernel_rfl) (by simp) ?_
        apply AllReady.cons (o := vinv11_4) (by kernel_rfl)
        case h =>
          intro K hK
          simp only [vinv11_4]
          have q0 := (HMB.out _ z9).cell 0
          simp at q0
          go_simp
          clear q0
          refine hK _ _ ?_
          clear hK K
          try simp only [Act.put, List.setIfInBounds_toArray, List.set_cons_zero, List.set_cons_succ]
          refine wpAny_ready (rs := [8]) (by kernel_rfl) (by simp) ?_
          apply AllReady.cons (o := vinv11_8) (by kernel_rfl)
          case hs => exact AllReady.nil
          intro K hK
          simp only [vinv11_8]
          go_simp
          obtain ⟨X1, hX1⟩ : ∃ X, X = W9.alloc (.cells #[.slice (some ⟨g2 k, r, none⟩) r (cap2 k - r)] 54) := ⟨_, rfl⟩
          rw [← hX1]
          have y1 : Below W9.heap.size W9 X1 := by rw [hX1]; exact (Below.refl _ _).alloc (Nat.le_refl _) _
          have NN := Lib.hid (show Row X1 W9.heap.size 54 #[.slice (some ⟨g2 k, r, none⟩) r (cap2 k - r)] by rw [hX1]; exact Row.new _ _ _)
          have zz := below_seq z9 y1
          clear hX1 y1
          refine hK _ _ ?_
          clear hK K
          try simp only [Act.put, List.setIfInBounds_toArray, List.set_cons_zero, List.set_cons_succ]
          refine wpAny_ready (rs := [9]) (by kernel_rfl) (by simp) ?_
          apply AllReady.cons (o := vinv11_9) (by kernel_rfl)
          case hs => exact AllReady.nil
          intro K hK
          obtain ⟨v5, w5, run5, own5, gr5, lc5⟩ := OwnK.append (P := Tryz.prog) (ty := 120) Tryz.underlying120 hi2 hz2 hsz2 rfl (by omega) (hown.out.keep zz) ⟨W9.heap.size, 0, none⟩ 1 1 [f k] rfl (fun j u hj => by
              rcases j with _ | j
              · simp only [List.getElem?_cons_zero, Option.some.injEq] at hj
                subst hj
                rw [hfk.out]
                exact NN.out.cell 0
              · simp at hj) (by simp [hfk.out, Value.oneCell']) (by simp [hfk.out, sliceKind]) (by simp [sliceKind, Value.cells]) (by omega) (by unfold maxLen; omega) (by rw [hby2]; omega) (Nat.le_trans hszr zz.size)
          refine step_append_run rfl (.tmp 39) (.tmp 43) 120 rfl _ _ rfl rfl run5 ?_
          obtain ⟨g5, cap5, rfl⟩ := own5.shape (by omega)
          obtain ⟨q1, q2, q3, q4⟩ := one_more hrow.out (by omega) hown.out zz own5 gr5 hbr (Nat.le_refl _)
          have hm5 := q4.cell 0
          have hf5 := q4.free 0
          simp at hm5
          have hsz5 : w2.heap.size + 1 ≤ (w5.setCell ⟨w2.heap.size, 0, none⟩ (.slice (some ⟨g5, 0, none⟩) (k + 1) cap5)).heap.size := q1.lt
          have Q1 := Lib.hid q1; have Q2 := Lib.hid q2; have Q3 := Lib.hid q3
          clear run5 own5 gr5 lc5 q1 q2 q3 q4
          refine hK _ _ ?_
          clear hK K
          try simp only [Act.put, List.setIfInBounds_toArray, List.set_cons_zero, List.set_cons_succ]
          refine wpAny_take (i := 10) (oi := vinv11_10) (v := .pointer (some ⟨w2.heap.size, 0, none⟩)) rfl (by kernel_rfl) (by kernel_rfl) (by kernel_rfl) (fun _ _ _ h => h) (Or.inl ⟨by kernel_rfl, ?_⟩) ?_
          · intro w; go_simp <;> first | omega | (intro hh; exfalso; omega) | rfl
          try simp only [Act.put, List.setIfInBounds_toArray, List.set_cons_zero, List.set_cons_succ, vinv11_10]
          refine wpAny_take (i := 11) (oi := vinv11_11) (v := .pointer (some ⟨w2.heap.size, 0, none⟩)) rfl (by kernel_rfl) (by kernel_rfl) (by kernel_rfl) (fun _ _ _ h => h) (Or.inl ⟨by kernel_rfl, ?_⟩) ?_
          · intro w; go_simp <;> first | omega | (intro hh; exfalso; omega) | rfl
          try simp only [Act.put, List.setIfInBounds_toArray, List.set_cons_zero, List.set_cons_succ, vinv11_11]
          refine wpAny_ready (rs := [12]) (by kernel_rfl) (by simp) ?_
          apply AllReady.cons (o := vinv11_12) (by kernel_rfl)
          case hs => exact AllReady.nil
          intro K hK
          simp only [vinv11_12]
          go_simp
          clear hm5 hf5
          refine hK _ _ ?_
          clear hK K
          try simp only [Act.put, List.setIfInBounds_toArray, List.set_cons_zero, List.set_cons_succ]
          refine wpAny_done (by kernel_rfl) ?_ _
          go_wp2_with fail
          go_roundw
          case rel => exact ⟨k + 1, _, by go_num, by omega, Q1, Q2, hsz5, Q3.out⟩
          case measure => simp [intOf]; omega
        apply AllReady.cons (o := vinv11_8) (by kernel_rfl)
        case h =>
          intro K hK
          simp only [vinv11_8]
          go_simp
          obtain ⟨X2, hX2⟩ : ∃ X, X = W9.alloc (.cells #[.slice (some ⟨g2 k, r, none⟩) r (cap2 k - r)] 54) := ⟨_, rfl⟩
          rw [← hX2]
          have y2 : Below W9.heap.size W9 X2 := by rw [hX2]; exact (Below.refl _ _).alloc (Nat.le_refl _) _
          have NN := Lib.hid (show Row X2 W9.heap.size 54 #[.slice (some ⟨g2 k, r, none⟩) r (cap2 k - r)] by rw [hX2]; exact Row.new _ _ _)
          have zz := below_seq z9 y2
          clear hX2 y2
          refine hK _ _ ?_
          clear hK K
          try simp only [Act.put, List.setIfInBounds_toArray, List.set_cons_zero, List.set_cons_succ]
          refine wpAny_ready (rs := [4]) (by kernel_rfl) (by simp) ?_
          apply AllReady.cons (o := vinv11_4) (by kernel_rfl)
          case hs => exact AllReady.nil
          intro K hK
          simp only [vinv11_4]
          have q0 := (HMB.out _ zz).cell 0
          simp at q0
          go_simp
          clear q0
          refine hK _ _ ?_
          clear hK K
          try simp only [Act.put, List.setIfInBounds_toArray, List.set_cons_zero, List.set_cons_succ]
          refine wpAny_ready (rs := [9]) (by kernel_rfl) (by simp) ?_
          apply AllReady.cons (o := vinv11_9) (by kernel_rfl)
          case hs => exact AllReady.nil
          intro K hK
          obtain ⟨v5, w5, run5, own5, gr5, lc5⟩ := OwnK.append (P := Tryz.prog) (ty := 120) Tryz.underlying120 hi2 hz2 hsz2 rfl (by omega) (hown.out.keep zz) ⟨W9.heap.size, 0, none⟩ 1 1 [f k] rfl (fun j u hj => by
              rcases j with _ | j
              · simp only [List.getElem?_cons_zero, Option.some.injEq] at hj
                subst hj
                rw [hfk.out]
                exact NN.out.cell 0
              · simp at hj) (by simp [hfk.out, Value.oneCell']) (by simp [hfk.out, sliceKind]) (by simp [sliceKind, Value.cells]) (by omega) (by unfold maxLen; omega) (by rw [hby2]; omega) (Nat.le_trans hszr zz.size)
          refine step_append_run rfl (.tmp 39) (.tmp 43) 120 rfl _ _ rfl rfl run5 ?_
          obtain ⟨g5, cap5, rfl⟩ := own5.shape (by omega)
          obtain ⟨q1, q2, q3, q4⟩ := one_more hrow.out (by omega) hown.out zz own5 gr5 hbr (Nat.le_refl _)
          have hm5 := q4.cell 0
          have hf5 := q4.free 0
          simp at hm5
          have hsz5 : w2.heap.size + 1 ≤ (w5.setCell ⟨w2.heap.size, 0, none⟩ (.slice (some ⟨g5, 0, none⟩) (k + 1) cap5)).heap.size := q1.lt
          have Q1 := Lib.hid q1; have Q2 := Lib.hid q2; have Q3 := Lib.hid q3
          clear run5 own5 gr5 lc5 q1 q2 q3 q4
          refine hK _ _ ?_
          clear hK K
          try simp only [Act.put, List.setIfInBounds_toArray, List.set_cons_zero, List.set_cons_succ]
          refine wpAny_take (i := 10) (oi := vinv11_10) (v := .pointer (some ⟨w2.heap.size, 0, none⟩)) rfl (by kernel_rfl) (by kernel_rfl) (by kernel_rfl) (fun _ _ _ h => h) (Or.inl ⟨by kernel_rfl, ?_⟩) ?_
          · intro w; go_simp <;> first | omega | (intro hh; exfalso; omega) | rfl
          try simp only [Act.put, List.setIfInBounds_toArray, List.set_cons_zero, List.set_cons_succ, vinv11_10]
          refine wpAny_take (i := 11) (oi := vinv11_11) (v := .pointer (some ⟨w2.heap.size, 0, none⟩)) rfl (by kernel_rfl) (by kernel_rfl) (by kernel_rfl) (fun _ _ _ h => h) (Or.inl ⟨by kernel_rfl, ?_⟩) ?_
          · intro w; go_simp <;> first | omega | (intro hh; exfalso; omega) | rfl
          try simp only [Act.put, List.setIfInBounds_toArray, List.set_cons_zero, List.set_cons_succ, vinv11_11]
          refine wpAny_ready (rs := [12]) (by kernel_rfl) (by simp) ?_
          apply AllReady.cons (o := vinv11_12) (by kernel_rfl)
          case hs => exact AllReady.nil
          intro K hK
          simp only [vinv11_12]
          go_simp
          clear hm5 hf5
          refine hK _ _ ?_
          clear hK K
          try simp only [Act.put, List.setIfInBounds_toArray, List.set_cons_zero, List.set_cons_succ]
          refine wpAny_done (by kernel_rfl) ?_ _
          go_wp2_with fail
          go_roundw
          case rel => exact ⟨k + 1, _, by go_num, by omega, Q1, Q2, hsz5, Q3.out⟩
          case measure => simp [intOf]; omega
        exact AllReady.nil
      · obtain rfl : k = r := by omega
        go_wp2_with fail
        go_ret2
        obtain ⟨_, ⟨_, h1⟩ | ⟨G', c', cur', rfl, _, _, h4, _⟩⟩ := id hown.out
        · omega
        · refine ⟨HB2.out.trans (hbr.mono HB2.out.size), .inr ⟨HEQ.out, _, rfl, w2.heap.size, G', 0, c', rfl, hrow.out.cell 0, h4, hrow.out.cell 1, fun i hi => ⟨f i, ?_, (HFR.out i hi).keep hbr⟩⟩⟩
          have := hown.out.own.cells (g := G') rfl i (f i) (by rw [List.getElem?_map, List.getElem?_range hi]; rfl)
          rwa [show (⟨G', 0, none⟩ : Addr).add i = ⟨G', 0 + i, none⟩ by simp [Addr.add]; omega] at this
end Go.Proofs.YthephiihcgibjaaGreatDoor
