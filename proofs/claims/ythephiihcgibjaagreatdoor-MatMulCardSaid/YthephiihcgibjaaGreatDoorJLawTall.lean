/- The law MatTall: of more rows than columns there is one solution, or none; of fewer never just one. -/
import Derived.Test.YthephiihcgibjaaGreatDoorJWalkN
import Derived.Test.YthephiihcgibjaaGreatDoorJLawMat
import Derived.Test.YthephiihcgibjaaGreatDoorJWalkT
import Derived.Test.YthephiihcgibjaaGreatDoorJWalkH
import Derived.Test.YthephiihcgibjaaGreatDoorJLitD
import Derived.Deep.RegionHeld
set_option linter.unusedVariables false
set_option linter.unusedSimpArgs false
namespace Vic
open Go Go.RowKit
theorem MatMade.read {T : TypeId} {rows cols : Nat} {M : Mtx} {w w' : World} {e : Ending} (h : MatMade T rows cols M w e w') : ∃ z, e = .returned (.tuple #[.pointer (some ⟨z, 0, none⟩), .bool true]) ∧ MatR w' (.pointer (some ⟨z, 0, none⟩)) rows cols M ∧ Below w.heap.size w w' := by
  obtain ⟨mb, G, c, g, cap, cur, rfl, h1, h2, h3, h4, h5⟩ := h
  exact ⟨mb, rfl, ⟨mb, G, 0, c, rfl, h1, h2, h3, h4.rgrid⟩, h5⟩
/-- pointers of one's own that lead to fractions -/
theorem own_frin {w : World} {B n : Nat} {T : TypeId} {v : Value} {ps : List (Option Addr)} {q : Nat → Rat} (h : OwnK ptrKind w B T 1 v n (ps.map Value.pointer)) (hn : 0 < n) (hl : ps.length = n) (hq : ∀ (i : Nat) p, ps[i]? = some p → FracPtr w (.pointer p) (q i)) : FrIn w v n q := by
  obtain ⟨g, cap, cur, rfl, h1, h2, h3, h4, h5⟩ := h.rowOf hn hl
  refine ⟨g, 0, cap, rfl, h3, fun k hk => ?_⟩
  have hk' : k < ps.length := by omega
  refine ⟨ps[k], ?_, hq k _ (List.getElem?_eq_getElem hk')⟩
  rw [Nat.zero_add, h2.cell, h5 k _ (List.getElem?_eq_getElem hk')]
theorem FrIn.pick {w : World} {v : Value} {n : Nat} {q : Nat → Rat} (h : FrIn w v n q) : ∃ g o c, v = .slice (some ⟨g, o, none⟩) n c ∧ n ≤ c ∧ ∃ bp : Nat → Option Addr, ∀ k, k < n → w.cell? ⟨g, o + k, none⟩ = some (.pointer (bp k)) ∧ FracPtr w (.pointer (bp k)) (q k) := by
  obtain ⟨g, o, c, h1, h2, h3⟩ := h
  refine ⟨g, o, c, h1, h2, fun k => if hk : k < n then (h3 k hk).choose else none, fun k hk => ?_⟩
  simp only [hk, dif_pos]
  exact (h3 k hk).choose_spec
theorem MatR.shape {w : World} {v : Value} {rows cols : Nat} {M : Mtx} (h : MatR w v rows cols M) : ∃ b, v = .pointer (some ⟨b, 0, none⟩) := by
  obtain ⟨b, _, _, _, h, _⟩ := h
  exact ⟨b, h⟩
/-- what Solve tells of b = M x -/
theorem solved_tall {T : TypeId} {rows cols : Nat} {M : Mtx} {x : Nat → Rat} {w w' : World} {e : Ending} (h : Solved T rows cols (redGo rows cols cols 0 (aug M (fun i _ => sigma cols fun k => M i k * x k) cols)) w e w') :
    Below w.heap.size w w' ∧ ((rankM rows cols M ≠ cols ∧ e = .returned (.tuple #[.slice none 0 0, .bool false])) ∨ (rankM rows cols M = cols ∧ ∃ v ps, e = .returned (.tuple #[v, .bool true]) ∧ (ps : List (Option Addr)).length = cols ∧ OwnK ptrKind w' w.heap.size T 1 v cols (ps.map Value.pointer) ∧ ∀ (j : Nat) p, ps[j]? = some p → FracPtr w' (.pointer p) (x j))) := by
  have e1 : (redGo rows cols cols 0 (aug M (fun i _ => sigma cols fun k => M i k * x k) cols)).1 = rankM rows cols M := rank_agree fun i k hi hk => by unfold aug; rw [if_pos hk]
  have hle := rank_le_cols rows cols M
  have hler := rank_le_rows rows cols M
  have key : rankM rows cols M = cols → _ := fun hr => sol_unique (rows := rows) (ncols := cols) (t := cols) (M := aug M (fun i _ => sigma cols fun k => M i k * x k) cols) (x := x) (e1.trans hr) (fun i hi => by
    rw [show aug M (fun i _ => sigma cols fun k => M i k * x k) cols i cols = sigma cols fun k => M i k * x k by unfold aug; rw [if_neg (by omega)]]
    exact sigma_congr fun k hk => by unfold aug; rw [if_pos hk])
  obtain ⟨hb, ⟨hno, rfl⟩ | ⟨h1, h2, v, ps, rfl, h3, h4, h5⟩⟩ := h
  · refine ⟨hb, .inl ⟨fun hr => ?_, rfl⟩⟩
    rcases hno with h | ⟨i, hi, hi2, h⟩
    · rw [e1, hr] at h; omega
    · exact h ((key hr).2 i hi hi2)
  · rw [e1] at h1
    have hr : rankM rows cols M = cols := by omega
    have hmin : min rows cols = cols := by omega
    rw [hmin] at h3 h4
    refine ⟨hb, .inr ⟨hr, v, ps, rfl, h3, h4, fun j p hj => ?_⟩⟩
    have hjl := (List.getElem?_eq_some_iff.1 hj).1
    rw [← (key hr).1 j (by omega)]
    exact h5 j p hj
end Vic
namespace Go.Proofs.YthephiihcgibjaaGreatDoor
open Go.RowKit Vic
abbrev vtall23_0 : Oper := { dst := some 89, op := Go.Op.move (Go.Operand.tmp 17), type := 54, pos := "law.go:516", after := #[], guard := none }
abbrev vtall23_1 : Oper := { dst := some 90, op := Go.Op.move (Go.Operand.tmp 19), type := 3, pos := "law.go:516", after := #[], guard := none }
abbrev vtall23_2 : Oper := { dst := some 91, op := Go.Op.indexAddr 54 (Go.Operand.tmp 89) (Go.Operand.tmp 90), type := 0, pos := "law.go:516", after := #[{ on := 0, ground := Go.Ground.data }, { on := 1, ground := Go.Ground.data }], guard := none }
abbrev vtall23_3 : Oper := { dst := some 92, op := Go.Op.load 31 (Go.Operand.tmp 91), type := 31, pos := "law.go:516", after := #[{ on := 2, ground := Go.Ground.data }], guard := none }
abbrev vtall23_4 : Oper := { dst := some 93, op := Go.Op.move (Go.Operand.tmp 12), type := 54, pos := "law.go:516", after := #[], guard := none }
abbrev vtall23_5 : Oper := { dst := some 94, op := Go.Op.move (Go.Operand.tmp 19), type := 3, pos := "law.go:516", after := #[], guard := none }
abbrev vtall23_6 : Oper := { dst := some 95, op := Go.Op.indexAddr 54 (Go.Operand.tmp 93) (Go.Operand.tmp 94), type := 0, pos := "law.go:516", after := #[{ on := 4, ground := Go.Ground.data }, { on := 5, ground := Go.Ground.data }], guard := none }
abbrev vtall23_7 : Oper := { dst := some 96, op := Go.Op.load 31 (Go.Operand.tmp 95), type := 31, pos := "law.go:516", after := #[{ on := 6, ground := Go.Ground.data }], guard := none }
abbrev vtall23_8 : Oper := { dst := some 97, op := Go.Op.call { callee := Go.Callee.value (Go.Operand.func 30), args := #[Go.Operand.tmp 92, Go.Operand.tmp 96], argTypes := #[31, 31] }, type := 3, pos := "law.go:516", after := #[{ on := 3, ground := Go.Ground.data }, { on := 7, ground := Go.Ground.data }], guard := none }
abbrev vtall23_9 : Oper := { dst := some 98, op := Go.Op.binOp Go.BinOp.neq 3 (Go.Operand.tmp 97) (Go.Operand.const (Go.Value.int Go.IntKind.i64 0)) 3, type := 4, pos := "law.go:516", after := #[{ on := 8, ground := Go.Ground.data }], guard := none }
set_option maxRecDepth 100000 in
set_option maxHeartbeats 16000000 in
theorem law_MatTall (w : World) (ht : Tab w) (a b : Int) (vc vd : Value) (us xs : List (List UInt8)) (hc : StrsArg w vc us) (hd : StrsArg w vd xs) (hus : us.length ≤ 9223372036854775807) (hxs : xs.length ≤ 9223372036854775807) (hub : ∀ y ∈ us, y.length ≤ 9223372036854775807) (hxb : ∀ y ∈ xs, y.length ≤ 9223372036854775807)
    (ha1 : -9223372036854775808 ≤ a) (ha2 : a ≤ 9223372036854775807) (hb1 : -9223372036854775808 ≤ b) (hb2 : b ≤ 9223372036854775807) :
    Calls Tryz.prog 8 #[.int .i64 a, .int .i64 b, vc, vd] w (Keeps (.bool true) w) := by
  obtain ⟨rrows, hrrows⟩ : ∃ r, a.tmod 5 = r := ⟨_, rfl⟩
  obtain ⟨rows, mrows, hmrows, horows, h0rows, h1rows⟩ : ∃ n m : Nat, (rrows + 5).tmod 5 = (m : Int) ∧ (1 : Int) + (m : Int) = (n : Int) ∧ 0 < n ∧ n ≤ 5 := by
    have a1 := Int.lt_tmod_of_pos a (show (0 : Int) < 5 by omega)
    have a2 := Int.tmod_lt_of_pos a (show (0 : Int) < 5 by omega)
    have a3 := Int.tmod_nonneg (a := rrows + 5) 5 (by omega)
    have a4 := Int.tmod_lt_of_pos (rrows + 5) (show (0 : Int) < 5 by omega)
    exact ⟨1 + ((rrows + 5).tmod 5).toNat, ((rrows + 5).tmod 5).toNat, by omega, by omega, by omega, by omega⟩
  have hlrows : -4 ≤ rrows ∧ rrows ≤ 4 := by
    have a1 := Int.lt_tmod_of_pos a (show (0 : Int) < 5 by omega)
    have a2 := Int.tmod_lt_of_pos a (show (0 : Int) < 5 by omega)
    omega
  obtain ⟨rcols, hrcols⟩ : ∃ r, b.tmod 4 = r := ⟨_, rfl⟩
  obtain ⟨cols, mcols, hmcols, hocols, h0cols, h1cols⟩ : ∃ n m : Nat, (rcols + 4).tmod 4 = (m : Int) ∧ (1 : Int) + (m : Int) = (n : Int) ∧ 0 < n ∧ n ≤ 4 := by
    have a1 := Int.lt_tmod_of_pos b (show (0 : Int) < 4 by omega)
    have a2 := Int.tmod_lt_of_pos b (show (0 : Int) < 4 by omega)
    have a3 := Int.tmod_nonneg (a := rcols + 4) 4 (by omega)
    have a4 := Int.tmod_lt_of_pos (rcols + 4) (show (0 : Int) < 4 by omega)
    exact ⟨1 + ((rcols + 4).tmod 4).toNat, ((rcols + 4).tmod 4).toNat, by omega, by omega, by omega, by omega⟩
  have hlcols : -3 ≤ rcols ∧ rcols ≤ 3 := by
    have a1 := Int.lt_tmod_of_pos b (show (0 : Int) < 4 by omega)
    have a2 := Int.tmod_lt_of_pos b (show (0 : Int) < 4 by omega)
    omega
  have CB := Lib.hid (law_begun w ht)
  have HT := Lib.hid ht
  have CM : Hid (∀ W, Below w.heap.size w W → Calls Tryz.prog 24 #[.int .i64 rows, .int .i64 cols, vc] W (TextsMade rows cols W)) := Lib.hid fun W h => law_matrix W rows cols vc us (hc.keep h) hus hub (by omega) h0rows (by omega) h0cols
  have CF : Hid (∀ W V, (V : List UInt8).length ≤ 1000000 → Below w.heap.size w W → Calls Tryz.prog 27 #[.string ⟨V.toArray⟩] W (fun e w' => ∃ x q, e = .returned x ∧ FracPtr w' x q ∧ Fits 2000 q ∧ Below W.heap.size W w')) := Lib.hid fun W V hV h => law_F W (HT.out.keep h) V hV
  obtain ⟨i1, hi1, hz1, hsz1, hby1⟩ := info_pf
  obtain ⟨A1, n1, q1, rfl⟩ : ∃ A n c, vc = .slice A n c := by obtain ⟨A, c, h, _⟩ := hc; exact ⟨_, _, _, h⟩
  obtain ⟨A2, c2, rfl, hxc⟩ := hd
  have HXC := Lib.hid hxc; have HXB := Lib.hid hxb
  clear hc hxc hus hub hxb ht hxs
  go_enter Tryz.func8, Tryz.ntmps8
  go_wp2_with fail
  refine CB.out.mono ?_
  rintro e w1 ⟨rfl, hb1'⟩
  clear CB
  have CM1 := Lib.hid (CM.out w1 hb1')
  go_wp2_with fail
  go_at_call 24
  refine CM1.out.mono ?_
  rintro e w2 ⟨sb, cs, tb, tc, tx, rfl, hcs, ho, htc, hx, hgd, hb2'⟩
  have B2 := below_seq hb1' hb2'
  obtain ⟨M, hM⟩ : ∃ M : Mtx, M = fun i j => fracOf (tx i j) := ⟨_, rfl⟩
  have hFM : FitsM 2000 rows cols M := fun i j hi hj => by rw [hM]; exact good_fits (hgd i j hi hj).1
  have CN0 := mat_New_all w2 sb 0 rows cols cs tb (fun _ => 0) tc tx ho hx (fun i j hi hj => ⟨(hgd i j hi hj).1, Nat.le_trans (hgd i j hi hj).2 (by omega)⟩) (HT.out.keep B2) (by omega) h0rows (by omega) h0cols hcs htc
  rw [← hM] at CN0
  have CN := Lib.hid CN0
  clear CN0 hM ho htc hx hgd CM CM1 hcs
  go_wp2_with fail
  go_at_call 25
  refine CN.out.mono ?_
  rintro e w3 h3
  obtain ⟨mb, rfl, hmr, hb3⟩ := h3.read
  have B3 := below_seq B2 hb3
  have HMR := Lib.hid hmr
  clear h3 hmr CN
  go_wp2_with fail
  go_loopw [13, 12] (fun t s wr => ∃ (k : Nat) (ps : List (Option Addr)) (q : Nat → Rat), t = .int .i64 k ∧ k ≤ cols ∧ ps.length = k ∧ Hid (OwnK ptrKind wr w3.heap.size 31 1 s k (ps.map Value.pointer)) ∧ Hid (∀ (i : Nat) p, ps[i]? = some p → FracPtr wr (.pointer p) (q i)) ∧ Hid (∀ i, Fits 2000 (q i)) ∧ Below w3.heap.size w3 wr) (fun t _ _ => cols - (intOf t).toNat)
  case atStart => exact ⟨0, [], fun _ => 0, rfl, Nat.zero_le _, rfl, Lib.hid (OwnK.nil_ _ _ _ _ _), Lib.hid (fun i p hp => by simp at hp), Lib.hid (fun i => (fits_of (n := 0) (by omega) (by omega)).mono (by omega)), Below.refl _ _⟩
  case round =>
    obtain ⟨k, ps, q, rfl, hk, hpl, hown, hps, hq, hbr⟩ := hrel
    have B5 := below_seq B3 hbr
    by_cases hkc : k < cols
    · have hkc' := Int.ofNat_lt.2 hkc
      by_cases hkx : k < xs.length
      case' pos =>
        have hkx' := Int.ofNat_lt.2 hkx
        obtain ⟨y, hy⟩ : ∃ y, xs[k]? = some y := ⟨xs[k], by simp [hkx]⟩
        obtain ⟨gy, oy, rfl, hcy⟩ := HXC.out k y hy
        have hcy' := cell_keep hcy B5
        have hyl := HXB.out y (List.mem_of_getElem? hy)
        have CT : Hid (∀ W, Calls Tryz.prog 26 #[.string ⟨y.toArray⟩, .int .i64 20] W (Keeps (.string ⟨(y.take 20).toArray⟩) W)) := Lib.hid fun W => law_Text W y 20 hyl (by omega)
        obtain ⟨V, hV⟩ : ∃ V : List UInt8, V = y.take 20 := ⟨_, rfl⟩
        have hVl : V.length ≤ 1000000 := by rw [hV, List.length_take]; omega
        rw [← hV] at CT
        clear hy hcy hyl hV
        go_wp2_with fail
        go_at_call 26
        refine (CT.out _).mono ?_
        rintro e wz ⟨rfl, hbz⟩
        clear CT
        go_upto_region 15 with fail
      case' neg =>
        have hkx' : ¬ ((k : Nat) : Int) < ((xs.length : Nat) : Int) := fun h => hkx (Int.ofNat_lt.1 h)
        obtain ⟨V, hV⟩ : ∃ V : List UInt8, V = [50] := ⟨_, rfl⟩
        have hVl : V.length ≤ 1000000 := by rw [hV]; simp
        have HVE : Hid ((⟨#[50]⟩ : ByteArray) = ⟨V.toArray⟩) := Lib.hid (by rw [hV])
        obtain ⟨wz, hwz⟩ : ∃ X, X = wr := ⟨_, rfl⟩
        have hbz : Below wr.heap.size wr wz := by rw [hwz]; exact Below.refl _ _
        have HWZ := Lib.hid hwz
        clear hV hwz hkx
        go_upto_region 15 with fail
        rw [HVE.out, ← HWZ.out]
      all_goals
        have CFV := Lib.hid (CF.out wz V hVl (below_seq B5 hbz))
        go_wp2_with fail
        go_at_call 27
        refine CFV.out.mono ?_
        rintro e w4 ⟨z, qz, rfl, hz4, hqz, hb4'⟩
        have hb4 := below_seq hbz hb4'
        obtain ⟨z0, rfl⟩ := hz4.ptr
        have hal : Below w4.heap.size w4 (w4.alloc (.cells #[.pointer z0] 31)) := (Below.refl _ _).alloc (Nat.le_refl _) _
        have hB5 : Below wr.heap.size wr (w4.alloc (.cells #[.pointer z0] 31)) := hb4.alloc hb4.size _
        have hown5 := Lib.hid (hown.out.keep hB5)
        have hnew5 : Hid (∀ (j : Nat) u, [Value.pointer z0][j]? = some u → (w4.alloc (.cells #[.pointer z0] 31)).cell? ((⟨w4.heap.size, 0, none⟩ : Addr).add j) = some u) := Lib.hid fun j u hj => by
          rcases j with _ | j
          · cases hj
            exact (Row.new _ _ _).cell 0
          · simp at hj
        have hk5 : w3.heap.size ≤ (w4.alloc (.cells #[.pointer z0] 31)).heap.size := Nat.le_trans hbr.size hB5.size
        have HZ4 := Lib.hid (hz4.keep hal)
        clear hz4 CFV hbz hb4'
        go_wp2_with (at_builtin; refine wpList_append_ownK (Kd := ptrKind) rfl (.tmp 57) (.tmp 60) 54 rfl w3.heap.size 31 i1 _ 1 Tryz.underlying54 hi1 hz1 hsz1 rfl (by omega) _ k _ rfl hown5.out ⟨w4.heap.size, 0, none⟩ 1 1 [Value.pointer z0] rfl (by simp) hnew5.out (by simp [Value.oneCell']) (by simp [ptrKind]) (by simp [ptrKind, Value.cells]) (by omega) (by unfold maxLen; omega) (by rw [hby1]; omega) hk5 ?_; intro v6 w6 hown6 hgr6 hloc6; refine Hid.out ?_)
        have hps6 : Hid (∀ (j : Nat) p, (ps ++ [z0])[j]? = some p → FracPtr w6 (.pointer p) (if j = k then qz else q j)) := Lib.hid fun j p hj => by
          refine frs_grown hown5.out hgr6 ?_
          rcases Nat.lt_or_ge j k with h4 | h4
          · rw [List.getElem?_append_left (by omega)] at hj
            rw [if_neg (by omega)]
            exact (hps.out j p hj).keep hB5
          · rw [List.getElem?_append_right (by omega)] at hj
            rcases hjn : j - ps.length with _ | m
            · rw [hjn] at hj
              simp only [List.getElem?_cons_zero, Option.some.injEq] at hj
              subst hj
              obtain rfl : j = k := by omega
              rw [if_pos rfl]
              exact HZ4.out
            · rw [hjn] at hj; simp at hj
        have hB6 : Below w3.heap.size w3 w6 := hown.out.below hbr hB5 hgr6 hbr.size
        have HO6 : Hid (OwnK ptrKind w6 w3.heap.size 31 1 v6 (k + 1) ((ps ++ [z0]).map Value.pointer)) := by
          rw [List.map_append]
          exact hown6
        have HQ6 : Hid (∀ i, Fits 2000 (if i = k then qz else q i)) := Lib.hid fun i => by
          split
          · exact hqz
          · exact hq.out i
        have HPL : (ps ++ [z0]).length = k + 1 := by rw [List.length_append, hpl]; rfl
        clear hown6
        refine Lib.hid ?_
        go_wp2_with fail
        go_roundw
        case rel => exact ⟨k + 1, ps ++ [z0], _, rfl, by omega, HPL, HO6, hps6, HQ6, hB6⟩
        case measure => simp [intOf]; omega
    · obtain rfl : k = cols := by omega
      have hfx := own_frin hown.out h0cols hpl hps.out
      have HPS := Lib.hid hfx
      have CT := Lib.hid (mat_Times wr _ _ rows k 2000 M q (HMR.out.keep hbr) hfx (fun i j hi hj => hFM i j hi hj) (fun j _ => hq.out j) h0rows (by omega) (by omega) (by omega))
      obtain ⟨gx, ox, cx, rfl, hcx, bx, hbx⟩ := hfx.pick
      have HBX := Lib.hid hbx
      clear hown hps hbx hfx
      go_wp2_with fail
      go_at_call 28
      refine CT.out.mono ?_
      rintro e w5 ⟨y, rfl, hy5, hb5⟩
      have z5 := below_seq hbr hb5
      have hmr5 := HMR.out.keep z5
      obtain ⟨gb, ob, cb, rfl, hcb, bp, hbp⟩ := hy5.pick
      have CR : Hid (∀ W, Below w5.heap.size w5 W → Calls Tryz.prog 42 #[.pointer (some ⟨mb, 0, none⟩)] W (Keeps (.int .i64 (rankM rows k M : Nat)) W)) := Lib.hid fun W hW => by
        obtain ⟨mb', G, GO, c, e1, e2, e3, e4, e5⟩ := hmr5.keep hW
        injection e1 with e1; injection e1 with e1; injection e1 with e1
        subst e1
        exact mat_Rank W mb G GO rows k c 2000 M e2 e4 e5 hFM (by omega) (Nat.le_trans (Nat.mul_le_mul_left 2000 (Nat.pow_le_pow_right (by omega) h1cols)) (by decide)) e3 (by omega) h0rows (by omega) h0cols
      have CS : Hid (Calls Tryz.prog 41 #[.pointer (some ⟨mb, 0, none⟩), .slice (some ⟨gb, ob, none⟩) rows cb] w5 (Solved 31 rows k (redGo rows k k 0 (aug M (fun i _ => sigma k fun j => M i j * q j) k)) w5)) := Lib.hid (by
        obtain ⟨mb', G, GO, c, e1, e2, e3, e4, e5⟩ := hmr5
        injection e1 with e1; injection e1 with e1; injection e1 with e1
        subst e1
        refine mat_Solve w5 mb G GO rows k c 16006 gb ob cb M bp _ e2 e4 e5 hbp hcb (fun i j hi hj => (hFM i j hi hj).mono (by omega)) (fun i hi => ?_) (by omega) (Nat.le_trans (Nat.mul_le_mul_left 16006 (Nat.pow_le_pow_right (by omega) h1cols)) (by decide)) e3 (by omega) h0rows (by omega) h0cols
        refine (fits_sigma (L := 2000) (fun j hj => hFM i j hi hj) (fun j hj => hq.out j)).mono ?_
        have := Nat.mul_le_mul_right (2 * 2000 + 1) h1cols
        omega)
      have HFX := Lib.hid (HPS.out.keep hb5)
      have HBX5 : Hid (∀ j, j < k → w5.cell? ⟨gx, ox + j, none⟩ = some (.pointer (bx j)) ∧ FracPtr w5 (.pointer (bx j)) (q j)) := Lib.hid fun j hj => ⟨cell_keep (HBX.out j hj).1 hb5, (HBX.out j hj).2.keep hb5⟩
      have ZW : Hid (∀ W, Below w5.heap.size w5 W → Below w.heap.size w W) := Lib.hid fun W h => below_seq (below_seq B3 z5) h
      clear hy5 hmr5 hbp CT HPS HBX HMR hb5 z5 B5
      obtain ⟨rk, hrk⟩ : ∃ rk, rk = rankM rows k M := ⟨_, rfl⟩
      rw [← hrk] at CR
      have hrkl : rk ≤ 10 := by rw [hrk]; have := rank_le_cols rows k M; omega
      go_wp2_with fail
      go_at_call 41
      refine CS.out.mono ?_
      rintro e w6 h6
      obtain ⟨hb6, ⟨hrn, rfl⟩ | ⟨hry, sv, ss, rfl, hsl, hso, hsf⟩⟩ := solved_tall h6
      · have hne : ((rk : Int) == (k : Int)) = false := by rw [beq_eq_false_iff_ne]; omega
        have CR6 := Lib.hid (CR.out w6 hb6)
        clear h6 CS hrn hrk
        go_wp2_with fail
        go_at_call 42
        refine CR6.out.mono ?_
        rintro e w7 ⟨rfl, hb7⟩
        have z7 := Lib.hid (below_seq hb6 hb7)
        go_wp2_with fail
        go_loopw [86] (fun t wx => t = .int .i64 0 ∧ wx = w7) (fun t _ => 0)
        case atStart => exact ⟨rfl, rfl⟩
        case round =>
          obtain ⟨rfl, rfl⟩ := hrel
          go_wp2_with fail
          go_ret
          exact ⟨rfl, ZW.out _ z7.out⟩
      · have hne : ((rk : Int) == (k : Int)) = true := by rw [beq_iff_eq]; omega
        have CR6 := Lib.hid (CR.out w6 hb6)
        have hfs := own_frin hso h0cols hsl hsf
        obtain ⟨gs, os, cs', rfl, hcs', bs, hbs⟩ := hfs.pick
        have HBS := Lib.hid hbs
        clear h6 CS hry hrk hso hsf hfs hbs hsl
        go_wp2_with fail
        go_at_call 42
        refine CR6.out.mono ?_
        rintro e w7 ⟨rfl, hb7⟩
        have z7 := Lib.hid (below_seq hb6 hb7)
        have HK : Hid (∀ W j, Below w7.heap.size w7 W → j < k → W.cell? ⟨gs, os + j, none⟩ = some (.pointer (bs j)) ∧ W.cell? ⟨gx, ox + j, none⟩ = some (.pointer (bx j)) ∧ FracPtr W (.pointer (bs j)) (q j) ∧ FracPtr W (.pointer (bx j)) (q j)) := Lib.hid fun W j h hj => ⟨cell_keep (HBS.out j hj).1 (below_seq hb7 h), cell_keep (HBX5.out j hj).1 (below_seq z7.out h), (HBS.out j hj).2.keep (below_seq hb7 h), (HBX5.out j hj).2.keep (below_seq z7.out h)⟩
        clear HBS HBX5 HFX CR CR6 hb6 hb7
        go_wp2_with fail
        go_loopw [86] (fun t wx => ∃ j : Nat, t = .int .i64 j ∧ j ≤ k ∧ Below w7.heap.size w7 wx) (fun t _ => k - (intOf t).toNat)
        case atStart => exact ⟨0, rfl, Nat.zero_le _, Below.refl _ _⟩
        case round =>
          obtain ⟨j, rfl, hj, hbx⟩ := hrel
          by_cases hjk : j < k
          · have hjk' := Int.ofNat_lt.2 hjk
            have HC : Hid (∀ W, Below wr.heap.size wr W → W.cell? ⟨gs, os + j, none⟩ = some (.pointer (bs j)) ∧ W.cell? ⟨gx, ox + j, none⟩ = some (.pointer (bx j)) ∧ FracPtr W (.pointer (bs j)) (q j) ∧ FracPtr W (.pointer (bx j)) (q j)) := Lib.hid fun W h => HK.out W j (below_seq hbx h) hjk
            have hqj := hq.out j
            obtain ⟨Q, hQ⟩ : ∃ Q, Q = q j := ⟨_, rfl⟩
            rw [← hQ] at HC hqj
            clear hQ
            go_wp2_with fail
            refine wp_region_held (S := fun W => Below wr.heap.size wr W) (by kernel_rfl) ?_
            change wpAnyH _ _ _ _ _ _ _ _ (World.drew _)
            obtain ⟨W0, hW0⟩ : ∃ X, X = (wr).drew := ⟨_, rfl⟩
            rw [← hW0]
            have z0 : Below (wr).heap.size (wr) W0 := by rw [hW0]; exact Below.drewN_ (Below.refl _ _) 1
            clear hW0
            refine wpAnyH_take (i := 0) (oi := vtall23_0) (v := .slice (some ⟨gs, os, none⟩) k cs') rfl (by kernel_rfl) (by kernel_rfl) (by kernel_rfl) (fun _ _ _ h => h) (Or.inl ⟨by kernel_rfl, ?_⟩) (z0) ?_
            · intro w hSw; go_simp <;> first | omega | (intro hh; exfalso; omega) | rfl
            try simp only [Act.put, List.setIfInBounds_toArray, List.set_cons_zero, List.set_cons_succ, vtall23_0]
            refine wpAnyH_take (i := 1) (oi := vtall23_1) (v := .int .i64 j) rfl (by kernel_rfl) (by kernel_rfl) (by kernel_rfl) (fun _ _ _ h => h) (Or.inl ⟨by kernel_rfl, ?_⟩) (z0) ?_
            · intro w hSw; go_simp <;> first | omega | (intro hh; exfalso; omega) | rfl
            try simp only [Act.put, List.setIfInBounds_toArray, List.set_cons_zero, List.set_cons_succ, vtall23_1]
            refine wpAnyH_take (i := 2) (oi := vtall23_2) (v := .pointer (some ⟨gs, os + j, none⟩)) rfl (by kernel_rfl) (by kernel_rfl) (by kernel_rfl) (fun _ _ _ h => h) (Or.inl ⟨by kernel_rfl, ?_⟩) (z0) ?_
            · intro w hSw; go_simp <;> first | omega | (intro hh; exfalso; omega) | rfl
            try simp only [Act.put, List.setIfInBounds_toArray, List.set_cons_zero, List.set_cons_succ, vtall23_2]
            refine wpAnyH_take (i := 3) (oi := vtall23_3) (v := .pointer (bs j)) rfl (by kernel_rfl) (by kernel_rfl) (by kernel_rfl) (fun _ _ _ h => h) (Or.inl ⟨by kernel_rfl, ?_⟩) (z0) ?_
            · intro w hSw; obtain ⟨e0, e1, _, _⟩ := HC.out w hSw; go_simp <;> first | omega | (intro hh; exfalso; omega) | rfl
            try simp only [Act.put, List.setIfInBounds_toArray, List.set_cons_zero, List.set_cons_succ, vtall23_3]
            refine wpAnyH_take (i := 4) (oi := vtall23_4) (v := .slice (some ⟨gx, ox, none⟩) k cx) rfl (by kernel_rfl) (by kernel_rfl) (by kernel_rfl) (fun _ _ _ h => h) (Or.inl ⟨by kernel_rfl, ?_⟩) (z0) ?_
            · intro w hSw; go_simp <;> first | omega | (intro hh; exfalso; omega) | rfl
            try simp only [Act.put, List.setIfInBounds_toArray, List.set_cons_zero, List.set_cons_succ, vtall23_4]
            refine wpAnyH_take (i := 5) (oi := vtall23_5) (v := .int .i64 j) rfl (by kernel_rfl) (by kernel_rfl) (by kernel_rfl) (fun _ _ _ h => h) (Or.inl ⟨by kernel_rfl, ?_⟩) (z0) ?_
            · intro w hSw; go_simp <;> first | omega | (intro hh; exfalso; omega) | rfl
            try simp only [Act.put, List.setIfInBounds_toArray, List.set_cons_zero, List.set_cons_succ, vtall23_5]
            refine wpAnyH_take (i := 6) (oi := vtall23_6) (v := .pointer (some ⟨gx, ox + j, none⟩)) rfl (by kernel_rfl) (by kernel_rfl) (by kernel_rfl) (fun _ _ _ h => h) (Or.inl ⟨by kernel_rfl, ?_⟩) (z0) ?_
            · intro w hSw; go_simp <;> first | omega | (intro hh; exfalso; omega) | rfl
            try simp only [Act.put, List.setIfInBounds_toArray, List.set_cons_zero, List.set_cons_succ, vtall23_6]
            refine wpAnyH_take (i := 7) (oi := vtall23_7) (v := .pointer (bx j)) rfl (by kernel_rfl) (by kernel_rfl) (by kernel_rfl) (fun _ _ _ h => h) (Or.inl ⟨by kernel_rfl, ?_⟩) (z0) ?_
            · intro w hSw; obtain ⟨e0, e1, _, _⟩ := HC.out w hSw; go_simp <;> first | omega | (intro hh; exfalso; omega) | rfl
            try simp only [Act.put, List.setIfInBounds_toArray, List.set_cons_zero, List.set_cons_succ, vtall23_7]
            refine wpAnyH_ready (rs := [8]) (by kernel_rfl) (by simp) ?_
            apply AllReadyH.cons (o := vtall23_8) (by kernel_rfl)
            case hs => exact AllReadyH.nil
            intro K hK
            simp only [vtall23_8]
            go_simp
            go_at_call 30
            refine (frac_Cmp_same _ _ _ Q (HC.out _ z0).2.2.1.at_ (HC.out _ z0).2.2.2.at_ (hqj.mono (by omega))).mono ?_
            rintro e' w8 ⟨rfl, hb8⟩
            have z8 := below_seq z0 hb8
            refine hK.out _ _ (z8) (fun hHeld => ?_)
            clear hK K hHeld
            try simp only [Act.put, List.setIfInBounds_toArray, List.set_cons_zero, List.set_cons_succ]
            refine wpAnyH_take (i := 9) (oi := vtall23_9) (v := .bool false) rfl (by kernel_rfl) (by kernel_rfl) (by kernel_rfl) (fun _ _ _ h => h) (Or.inl ⟨by kernel_rfl, ?_⟩) (z8) ?_
            · intro w hSw; go_simp <;> first | omega | (intro hh; exfalso; omega) | rfl
            try simp only [Act.put, List.setIfInBounds_toArray, List.set_cons_zero, List.set_cons_succ, vtall23_9]
            refine wpAnyH_done (by kernel_rfl) ?_ _
            have ZZ := Lib.hid (below_seq hbx z8)
            go_wp2_with fail
            go_roundw
            case rel => exact ⟨j + 1, by go_num, by omega, ZZ.out⟩
            case measure => simp [intOf]; omega
          · obtain rfl : j = k := by omega
            go_wp2_with fail
            go_ret
            exact ⟨rfl, ZW.out _ (below_seq z7.out hbx)⟩
end Go.Proofs.YthephiihcgibjaaGreatDoor
