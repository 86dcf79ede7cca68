/- The law MatSolve: a matrix with an inverse solves all, one without it none; the rank says which. -/
import Derived.Test.YthephiihcgibjaaGreatDoorJLawTall
import Derived.Lib.SliceRun
set_option linter.unusedVariables false
set_option linter.unusedSimpArgs false
namespace Vic
open Go Go.RowKit
/-- what Solve tells of as many equations as unknowns -/
theorem solved_square {T : TypeId} {n : Nat} {M : Mtx} {b : Nat → Rat} {w w' : World} {e : Ending} (h : Solved T n n (redGo n n n 0 (aug M (fun i _ => b i) n)) w e w') :
    Below w.heap.size w w' ∧ ((rankM n n M ≠ n ∧ e = .returned (.tuple #[.slice none 0 0, .bool false])) ∨ (rankM n n M = n ∧ ∃ v ps, e = .returned (.tuple #[v, .bool true]) ∧ (ps : List (Option Addr)).length = n ∧ OwnK ptrKind w' w.heap.size T 1 v n (ps.map Value.pointer) ∧ ∀ (j : Nat) p, ps[j]? = some p → FracPtr w' (.pointer p) (redM n n (aug M (fun i _ => b i) n) j n))) := by
  have e1 : (redGo n n n 0 (aug M (fun i _ => b i) n)).1 = rankM n n M := rank_agree fun i k hi hk => by unfold aug; rw [if_pos hk]
  have hle := rank_le_cols n n M
  obtain ⟨hb, ⟨hno, rfl⟩ | ⟨h1, h2, v, ps, rfl, h3, h4, h5⟩⟩ := h
  · refine ⟨hb, .inl ⟨fun hr => ?_, rfl⟩⟩
    rcases hno with h | ⟨i, hi, hi2, h⟩
    · rw [e1, hr] at h; omega
    · omega
  · rw [e1] at h1
    have hr : rankM n n M = n := by omega
    rw [Nat.min_self] at h3 h4
    exact ⟨hb, .inr ⟨hr, v, ps, rfl, h3, h4, h5⟩⟩
theorem solve_times {n : Nat} {M : Mtx} {b : Nat → Rat} (hr : rankM n n M = n) {i : Nat} (hi : i < n) : sigma n (fun k => M i k * redM n n (aug M (fun i _ => b i) n) k n) = b i := by
  have h := sol_solves (n := n) (t := n) (M := aug M (fun i _ => b i) n) ((rank_agree fun i k hi hk => by unfold aug; rw [if_pos hk]).trans hr) i hi
  rw [show aug M (fun i _ => b i) n i n = b i by unfold aug; rw [if_neg (by omega)]] at h
  rw [← h]
  exact sigma_congr fun k hk => by unfold aug; rw [if_pos hk]
theorem fits_inv {L n : Nat} {M : Mtx} (h : FitsM L n n M) (hL : 2 ≤ L) : FitsM (L * 5 ^ n) n n (invM n M) := fun i k hi hk => by
  rw [invM_eq]
  exact redGo_fits n 0 L _ (fits_aug h fun i k _ _ => (fits_delta i k).mono hL) (by omega) (Nat.le_refl _) (show n ≤ n + n by omega) i (n + k) hi (by omega)
theorem fits_solve {L n : Nat} {M : Mtx} {b : Nat → Rat} (h : FitsM L n n M) (hb : ∀ i, i < n → Fits L (b i)) (hL : 1 ≤ L) : ∀ k, k < n → Fits (L * 5 ^ n) (redM n n (aug M (fun i _ => b i) n) k n) := fun k hk =>
  redGo_fits n 0 L _ (fits_aug (x := 1) h fun i j hi _ => hb i hi) hL (Nat.le_refl _) (by omega) k n hk (by omega)
end Vic
namespace Go.Proofs.YthephiihcgibjaaGreatDoor
open Go.RowKit Vic
theorem mat_RankR (w : World) (u : Value) (rows cols L : Nat) (M : Mtx) (h : MatR w u rows cols M) (hf : FitsM L rows cols M) (hL1 : 1 ≤ L) (hL : L * 5 ^ cols ≤ 1000000000) (hr : rows ≤ 100000) (hr0 : 0 < rows) (hcc : cols ≤ 100000) (hc0 : 0 < cols) :
    Calls Tryz.prog 42 #[u] w (Keeps (.int .i64 (rankM rows cols M : Nat)) w) := by
  obtain ⟨mb, G, GO, c, rfl, e2, e3, e4, e5⟩ := h
  exact mat_Rank w mb G GO rows cols c L M e2 e4 e5 hf hL1 hL e3 hr hr0 hcc hc0
theorem mat_SolveR (w : World) (u v : Value) (rows cols L : Nat) (M : Mtx) (b : Nat → Rat) (h : MatR w u rows cols M) (hb : FrIn w v rows b) (hf : FitsM L rows cols M) (hfb : ∀ i, i < rows → Fits L (b i)) (hL1 : 1 ≤ L) (hL : L * 5 ^ cols ≤ 1000000000) (hr : rows ≤ 100000) (hr0 : 0 < rows) (hcc : cols ≤ 10000) (hc0 : 0 < cols) :
    Calls Tryz.prog 41 #[u, v] w (Solved 31 rows cols (redGo rows cols cols 0 (aug M (fun i _ => b i) cols)) w) := by
  obtain ⟨mb, G, GO, c, rfl, e2, e3, e4, e5⟩ := h
  obtain ⟨gb, ob, cb, rfl, hcb, bp, hbp⟩ := hb.pick
  exact mat_Solve w mb G GO rows cols c L gb ob cb M bp b e2 e4 e5 hbp hcb hf hfb hL1 hL e3 hr hr0 hcc hc0
abbrev vsolve30_0 : Oper := { dst := some 133, op := Go.Op.move (Go.Operand.tmp 18), type := 54, pos := "law.go:475", after := #[], guard := none }
abbrev vsolve30_1 : Oper := { dst := some 134, op := Go.Op.move (Go.Operand.tmp 22), type := 3, pos := "law.go:475", after := #[], guard := none }
abbrev vsolve30_2 : Oper := { dst := some 135, op := Go.Op.indexAddr 54 (Go.Operand.tmp 133) (Go.Operand.tmp 134), type := 0, pos := "law.go:475", after := #[{ on := 0, ground := Go.Ground.data }, { on := 1, ground := Go.Ground.data }], guard := none }
abbrev vsolve30_3 : Oper := { dst := some 136, op := Go.Op.load 31 (Go.Operand.tmp 135), type := 31, pos := "law.go:475", after := #[{ on := 2, ground := Go.Ground.data }], guard := none }
abbrev vsolve30_4 : Oper := { dst := some 137, op := Go.Op.move (Go.Operand.tmp 13), type := 54, pos := "law.go:475", after := #[], guard := none }
abbrev vsolve30_5 : Oper := { dst := some 138, op := Go.Op.move (Go.Operand.tmp 22), type := 3, pos := "law.go:475", after := #[], guard := none }
abbrev vsolve30_6 : Oper := { dst := some 139, op := Go.Op.indexAddr 54 (Go.Operand.tmp 137) (Go.Operand.tmp 138), type := 0, pos := "law.go:475", after := #[{ on := 4, ground := Go.Ground.data }, { on := 5, ground := Go.Ground.data }], guard := none }
abbrev vsolve30_7 : Oper := { dst := some 140, op := Go.Op.load 31 (Go.Operand.tmp 139), type := 31, pos := "law.go:475", after := #[{ on := 6, ground := Go.Ground.data }], guard := none }
abbrev vsolve30_8 : Oper := { dst := some 141, op := Go.Op.call { callee := Go.Callee.value (Go.Operand.func 30), args := #[Go.Operand.tmp 136, Go.Operand.tmp 140], argTypes := #[31, 31] }, type := 3, pos := "law.go:475", after := #[{ on := 3, ground := Go.Ground.data }, { on := 7, ground := Go.Ground.data }], guard := none }
abbrev vsolve30_9 : Oper := { dst := some 142, op := Go.Op.binOp Go.BinOp.neq 3 (Go.Operand.tmp 141) (Go.Operand.const (Go.Value.int Go.IntKind.i64 0)) 3, type := 4, pos := "law.go:475", after := #[{ on := 8, ground := Go.Ground.data }], guard := none }
set_option maxRecDepth 100000 in
set_option maxHeartbeats 16000000 in
theorem law_MatSolve (w : World) (ht : Tab w) (a : Int) (vc vd : Value) (us xs : List (List UInt8)) (hc : StrsArg w vc us) (hd : StrsArg w vd xs) (hus : us.length ≤ 9223372036854775807) (hxs : xs.length ≤ 9223372036854775807) (hub : ∀ y ∈ us, y.length ≤ 9223372036854775807) (hxb : ∀ y ∈ xs, y.length ≤ 9223372036854775807)
    (ha1 : -9223372036854775808 ≤ a) (ha2 : a ≤ 9223372036854775807) :
    Calls Tryz.prog 11 #[.int .i64 a, vc, vd] w (Keeps (.bool true) w) := by
  obtain ⟨rn, hrn⟩ : ∃ r, a.tmod 5 = r := ⟨_, rfl⟩
  obtain ⟨n, mn, hmn, hon, h0n, h1n⟩ : ∃ n m : Nat, (rn + 5).tmod 5 = (m : Int) ∧ (1 : Int) + (m : Int) = (n : Int) ∧ 0 < n ∧ n ≤ 5 := by
    have a1 := Int.lt_tmod_of_pos a (show (0 : Int) < 5 by omega)
    have a2 := Int.tmod_lt_of_pos a (show (0 : Int) < 5 by omega)
    have a3 := Int.tmod_nonneg (a := rn + 5) 5 (by omega)
    have a4 := Int.tmod_lt_of_pos (rn + 5) (show (0 : Int) < 5 by omega)
    exact ⟨1 + ((rn + 5).tmod 5).toNat, ((rn + 5).tmod 5).toNat, by omega, by omega, by omega, by omega⟩
  have hln : -4 ≤ rn ∧ rn ≤ 4 := by
    have a1 := Int.lt_tmod_of_pos a (show (0 : Int) < 5 by omega)
    have a2 := Int.tmod_lt_of_pos a (show (0 : Int) < 5 by omega)
    omega
  have CB := Lib.hid (law_begun w ht)
  have HT := Lib.hid ht
  have CM : Hid (∀ W, Below w.heap.size w W → Calls Tryz.prog 24 #[.int .i64 n, .int .i64 n, vc] W (TextsMade n n W)) := Lib.hid fun W h => law_matrix W n n vc us (hc.keep h) hus hub (by omega) h0n (by omega) h0n
  have CF : Hid (∀ W V, (V : List UInt8).length ≤ 1000000 → Below w.heap.size w W → Calls Tryz.prog 27 #[.string ⟨V.toArray⟩] W (fun e w' => ∃ x q, e = .returned x ∧ FracPtr w' x q ∧ Fits 2000 q ∧ Below W.heap.size W w')) := Lib.hid fun W V hV h => law_F W (HT.out.keep h) V hV
  obtain ⟨i1, hi1, hz1, hsz1, hby1⟩ := info_pf
  obtain ⟨A1, n1, q1, rfl⟩ : ∃ A n c, vc = .slice A n c := by obtain ⟨A, c, h, _⟩ := hc; exact ⟨_, _, _, h⟩
  obtain ⟨A2, c2, rfl, hxc⟩ := hd
  have HXC := Lib.hid hxc; have HXB := Lib.hid hxb
  have h5 : 5 ^ n ≤ 5 ^ 5 := Nat.pow_le_pow_right (by omega) h1n
  have hL5 : 2000 * 5 ^ n ≤ 6250000 := Nat.le_trans (Nat.mul_le_mul_left _ h5) (by decide)
  have HL5 := Lib.hid hL5
  have hnil : ∀ w, (binOp .eql 54 (.slice none 0 0) (.slice none 0 0)).run Tryz.prog w = .ok (.bool true) w := fun w => Lib.run_eql_slice_nil w 54 31 none 0 0 0 0 Tryz.underlying54
  clear hc hxc hus hub hxb ht hxs h5 hL5
  go_enter Tryz.func11, Tryz.ntmps11
  go_wp2_with fail
  refine CB.out.mono ?_
  rintro e w1 ⟨rfl, hb1'⟩
  clear CB
  have CM1 := Lib.hid (CM.out w1 hb1')
  go_wp2_with fail
  go_at_call 24
  refine CM1.out.mono ?_
  rintro e w2 ⟨sb, cs, tb, tc, tx, rfl, hcs, ho, htc, hx, hgd, hb2'⟩
  have B2 := below_seq hb1' hb2'
  obtain ⟨M, hM⟩ : ∃ M : Mtx, M = fun i j => fracOf (tx i j) := ⟨_, rfl⟩
  have hFM : FitsM 2000 n n M := fun i j hi hj => by rw [hM]; exact good_fits (hgd i j hi hj).1
  have CN0 := mat_New_all w2 sb 0 n n cs tb (fun _ => 0) tc tx ho hx (fun i j hi hj => ⟨(hgd i j hi hj).1, Nat.le_trans (hgd i j hi hj).2 (by omega)⟩) (HT.out.keep B2) (by omega) h0n (by omega) h0n hcs htc
  rw [← hM] at CN0
  have CN := Lib.hid CN0
  have HFM := Lib.hid hFM
  clear CN0 hM ho htc hx hgd CM CM1 hcs hFM
  go_wp2_with fail
  go_at_call 25
  refine CN.out.mono ?_
  rintro e w3 h3
  obtain ⟨mb, rfl, hmr, hb3⟩ := h3.read
  have B3 := below_seq B2 hb3
  have HMR : Hid (∀ W, Below w3.heap.size w3 W → MatR W (.pointer (some ⟨mb, 0, none⟩)) n n M) := Lib.hid fun W h => hmr.keep h
  have CI : Hid (Calls Tryz.prog 47 #[.pointer (some ⟨mb, 0, none⟩)] w3 (Inverted n M w3)) := Lib.hid (mat_Inverse w3 _ n 2000 M hmr HFM.out (by omega) (Nat.le_trans HL5.out (by omega)) h0n (by omega))
  have CR : Hid (∀ W, Below w3.heap.size w3 W → Calls Tryz.prog 42 #[.pointer (some ⟨mb, 0, none⟩)] W (Keeps (.int .i64 (rankM n n M : Nat)) W)) := Lib.hid fun W h => mat_RankR W _ n n 2000 M (HMR.out W h) HFM.out (by omega) (Nat.le_trans HL5.out (by omega)) (by omega) h0n (by omega) h0n
  have CR2 : Hid (∀ W z, MatR W z n n (turnM M) → Calls Tryz.prog 42 #[z] W (Keeps (.int .i64 (rankM n n M : Nat)) W)) := Lib.hid fun W z h => by
    rw [← rank_turn]
    exact mat_RankR W z n n 2000 (turnM M) h (fun i k hi hk => HFM.out k i hk hi) (by omega) (Nat.le_trans HL5.out (by omega)) (by omega) h0n (by omega) h0n
  have CTN : Hid (∀ W, Below w3.heap.size w3 W → Calls Tryz.prog 46 #[.pointer (some ⟨mb, 0, none⟩)] W (Gives (fun z w' => MatR w' z n n (turnM M)) W)) := Lib.hid fun W h => mat_Turn W _ n n M (HMR.out W h) h0n h0n (by omega) (by omega)
  obtain ⟨rk, hrk⟩ : ∃ rk, rk = rankM n n M := ⟨_, rfl⟩
  have HRK := Lib.hid hrk
  have hrkl : rk ≤ 10 := by rw [hrk]; have := rank_le_cols n n M; omega
  rw [← hrk] at CR CR2
  clear h3 hmr CN hrk
  go_wp2_with fail
  go_at_call 47
  refine CI.out.mono ?_
  rintro e w4 hinv
  obtain ⟨hb4, hinv⟩ := hinv
  rcases hinv with ⟨hrn, rfl⟩ | ⟨hry, iz, rfl, hiz⟩
  · have hrk2 : ((rk : Int) == (n : Int)) = false := by
      rw [beq_eq_false_iff_ne]; have := HRK.out; omega
    have HRN := Lib.hid hrn
    clear hrn
    go_wp2_with fail
    go_at_call 42
    refine (CR.out _ hb4).mono ?_
    rintro e w5 ⟨rfl, hb5⟩
    have z5 := below_seq hb4 hb5
    go_wp2_with fail
    go_at_call 46
    refine (CTN.out _ z5).mono ?_
    rintro e w6 ⟨tz, rfl, htz, hb6⟩
    have z6 := below_seq z5 hb6
    have CR6 := Lib.hid (CR2.out _ _ htz)
    obtain ⟨tb, rfl⟩ := htz.shape
    clear htz
    go_wp2_with fail
    go_at_call 42
    refine CR6.out.mono ?_
    rintro e w7 ⟨rfl, hb7⟩
    have z7 := below_seq z6 hb7
    go_wp2_with fail
    go_at_call 42
    refine (CR.out _ z7).mono ?_
    rintro e w8 ⟨rfl, hb8⟩
    have z8 := below_seq z7 hb8
    have B8 := below_seq B3 z8
    clear CR6 CR CR2 CTN CI
    go_wp2_with fail
    go_loopw [14, 13] (fun t s wr => ∃ (k : Nat) (ps : List (Option Addr)) (q : Nat → Rat), t = .int .i64 k ∧ k ≤ n ∧ ps.length = k ∧ Hid (OwnK ptrKind wr w8.heap.size 31 1 s k (ps.map Value.pointer)) ∧ Hid (∀ (i : Nat) p, ps[i]? = some p → FracPtr wr (.pointer p) (q i)) ∧ Hid (∀ i, Fits 2000 (q i)) ∧ Below w8.heap.size w8 wr) (fun t _ _ => n - (intOf t).toNat)
    case atStart => exact ⟨0, [], fun _ => 0, rfl, Nat.zero_le _, rfl, Lib.hid (OwnK.nil_ _ _ _ _ _), Lib.hid (fun i p hp => by simp at hp), Lib.hid (fun i => (fits_of (n := 0) (by omega) (by omega)).mono (by omega)), Below.refl _ _⟩
    case round =>
      obtain ⟨k, ps, q, rfl, hk, hpl, hown, hps, hq, hbr⟩ := hrel
      have B5 := below_seq B8 hbr
      by_cases hkc : k < n
      · have hkc' := Int.ofNat_lt.2 hkc
        by_cases hkx : k < xs.length
        case' pos =>
          have hkx' := Int.ofNat_lt.2 hkx
          obtain ⟨y, hy⟩ : ∃ y, xs[k]? = some y := ⟨xs[k], by simp [hkx]⟩
          obtain ⟨gy, oy, rfl, hcy⟩ := HXC.out k y hy
          have hcy' := cell_keep hcy B5
          have hyl := HXB.out y (List.mem_of_getElem? hy)
          have CT : Hid (∀ W, Calls Tryz.prog 26 #[.string ⟨y.toArray⟩, .int .i64 20] W (Keeps (.string ⟨(y.take 20).toArray⟩) W)) := Lib.hid fun W => law_Text W y 20 hyl (by omega)
          obtain ⟨V, hV⟩ : ∃ V : List UInt8, V = y.take 20 := ⟨_, rfl⟩
          have hVl : V.length ≤ 1000000 := by rw [hV, List.length_take]; omega
          rw [← hV] at CT
          clear hy hcy hyl hV
          go_wp2_with fail
          go_at_call 26
          refine (CT.out _).mono ?_
          rintro e wz ⟨rfl, hbz⟩
          clear CT
          go_upto_region 19 with fail
        case' neg =>
          have hkx' : ¬ ((k : Nat) : Int) < ((xs.length : Nat) : Int) := fun h => hkx (Int.ofNat_lt.1 h)
          obtain ⟨V, hV⟩ : ∃ V : List UInt8, V = [49] := ⟨_, rfl⟩
          have hVl : V.length ≤ 1000000 := by rw [hV]; simp
          have HVE : Hid ((⟨#[49]⟩ : ByteArray) = ⟨V.toArray⟩) := Lib.hid (by rw [hV])
          obtain ⟨wz, hwz⟩ : ∃ X, X = wr := ⟨_, rfl⟩
          have hbz : Below wr.heap.size wr wz := by rw [hwz]; exact Below.refl _ _
          have HWZ := Lib.hid hwz
          clear hV hwz hkx
          go_upto_region 19 with fail
          rw [HVE.out, ← HWZ.out]
        all_goals
          have CFV := Lib.hid (CF.out wz V hVl (below_seq B5 hbz))
          go_wp2_with fail
          go_at_call 27
          refine CFV.out.mono ?_
          rintro e w4 ⟨z, qz, rfl, hz4, hqz, hb4'⟩
          have hb4 := below_seq hbz hb4'
          obtain ⟨z0, rfl⟩ := hz4.ptr
          have hal : Below w4.heap.size w4 (w4.alloc (.cells #[.pointer z0] 31)) := (Below.refl _ _).alloc (Nat.le_refl _) _
          have hB5 : Below wr.heap.size wr (w4.alloc (.cells #[.pointer z0] 31)) := hb4.alloc hb4.size _
          have hown5 := Lib.hid (hown.out.keep hB5)
          have hnew5 : Hid (∀ (j : Nat) u, [Value.pointer z0][j]? = some u → (w4.alloc (.cells #[.pointer z0] 31)).cell? ((⟨w4.heap.size, 0, none⟩ : Addr).add j) = some u) := Lib.hid fun j u hj => by
            rcases j with _ | j
            · cases hj
              exact (Row.new _ _ _).cell 0
            · simp at hj
          have hk5 : w8.heap.size ≤ (w4.alloc (.cells #[.pointer z0] 31)).heap.size := Nat.le_trans hbr.size hB5.size
          have HZ4 := Lib.hid (hz4.keep hal)
          clear hz4 CFV hbz hb4'
          go_wp2_with (at_builtin; refine wpList_append_ownK (Kd := ptrKind) rfl (.tmp 77) (.tmp 80) 54 rfl w8.heap.size 31 i1 _ 1 Tryz.underlying54 hi1 hz1 hsz1 rfl (by omega) _ k _ rfl hown5.out ⟨w4.heap.size, 0, none⟩ 1 1 [Value.pointer z0] rfl (by simp) hnew5.out (by simp [Value.oneCell']) (by simp [ptrKind]) (by simp [ptrKind, Value.cells]) (by omega) (by unfold maxLen; omega) (by rw [hby1]; omega) hk5 ?_; intro v6 w6 hown6 hgr6 hloc6; refine Hid.out ?_)
          have hps6 : Hid (∀ (j : Nat) p, (ps ++ [z0])[j]? = some p → FracPtr w6 (.pointer p) (if j = k then qz else q j)) := Lib.hid fun j p hj => by
            refine frs_grown hown5.out hgr6 ?_
            rcases Nat.lt_or_ge j k with h4 | h4
            · rw [List.getElem?_append_left (by omega)] at hj
              rw [if_neg (by omega)]
              exact (hps.out j p hj).keep hB5
            · rw [List.getElem?_append_right (by omega)] at hj
              rcases hjn : j - ps.length with _ | m
              · rw [hjn] at hj
                simp only [List.getElem?_cons_zero, Option.some.injEq] at hj
                subst hj
                obtain rfl : j = k := by omega
                rw [if_pos rfl]
                exact HZ4.out
              · rw [hjn] at hj; simp at hj
          have hB6 : Below w8.heap.size w8 w6 := hown.out.below hbr hB5 hgr6 hbr.size
          have HO6 : Hid (OwnK ptrKind w6 w8.heap.size 31 1 v6 (k + 1) ((ps ++ [z0]).map Value.pointer)) := by
            rw [List.map_append]
            exact hown6
          have HQ6 : Hid (∀ i, Fits 2000 (if i = k then qz else q i)) := Lib.hid fun i => by
            split
            · exact hqz
            · exact hq.out i
          have HPL : (ps ++ [z0]).length = k + 1 := by rw [List.length_append, hpl]; rfl
          clear hown6
          refine Lib.hid ?_
          go_wp2_with fail
          go_roundw
          case rel => exact ⟨k + 1, ps ++ [z0], _, rfl, by omega, HPL, HO6, hps6, HQ6, hB6⟩
          case measure => simp [intOf]; omega
      · obtain rfl : k = n := by omega
        have hfx := own_frin hown.out h0n hpl hps.out
        have CS := Lib.hid (mat_SolveR wr (.pointer (some ⟨mb, 0, none⟩)) _ k k 2000 M q (HMR.out _ (below_seq z8 hbr)) hfx HFM.out (fun i _ => hq.out i) (by omega) (Nat.le_trans HL5.out (by omega)) (by omega) h0n (by omega) h0n)
        obtain ⟨gx, ox, cx, rfl, hcx, _⟩ := hfx
        have HB := Lib.hid B5
        clear hown hps B5
        go_wp2_with fail
        go_at_call 41
        refine CS.out.mono ?_
        rintro e w9 h9
        obtain ⟨hb9, ⟨hrn, rfl⟩ | ⟨hry, _⟩⟩ := solved_square h9
        · clear h9 CS
          go_wp2_with fail
          go_ret
          exact ⟨by first | rfl | kernel_rfl, below_seq HB.out hb9⟩
        · exact absurd hry HRN.out
  · have hrk2 : ((rk : Int) == (n : Int)) = true := by
      rw [beq_iff_eq]; have := HRK.out; omega
    have HRY := Lib.hid hry
    have HIZ : Hid (∀ W, Below w4.heap.size w4 W → MatR W iz n n (invM n M)) := Lib.hid fun W h => hiz.keep h
    obtain ⟨ib, rfl⟩ := hiz.shape
    clear hry hiz
    go_wp2_with fail
    go_at_call 42
    refine (CR.out _ hb4).mono ?_
    rintro e w5 ⟨rfl, hb5⟩
    have z5 := below_seq hb4 hb5
    go_wp2_with fail
    go_at_call 46
    refine (CTN.out _ z5).mono ?_
    rintro e w6 ⟨tz, rfl, htz, hb6⟩
    have z6 := below_seq z5 hb6
    have CR6 := Lib.hid (CR2.out _ _ htz)
    obtain ⟨tb, rfl⟩ := htz.shape
    clear htz
    go_wp2_with fail
    go_at_call 42
    refine CR6.out.mono ?_
    rintro e w7 ⟨rfl, hb7⟩
    have z7 := below_seq z6 hb7
    go_wp2_with fail
    go_at_call 42
    refine (CR.out _ z7).mono ?_
    rintro e w8 ⟨rfl, hb8⟩
    have z8 := below_seq z7 hb8
    have B8 := below_seq B3 z8
    clear CR6 CR CR2 CTN CI
    go_wp2_with fail
    go_loopw [14, 13] (fun t s wr => ∃ (k : Nat) (ps : List (Option Addr)) (q : Nat → Rat), t = .int .i64 k ∧ k ≤ n ∧ ps.length = k ∧ Hid (OwnK ptrKind wr w8.heap.size 31 1 s k (ps.map Value.pointer)) ∧ Hid (∀ (i : Nat) p, ps[i]? = some p → FracPtr wr (.pointer p) (q i)) ∧ Hid (∀ i, Fits 2000 (q i)) ∧ Below w8.heap.size w8 wr) (fun t _ _ => n - (intOf t).toNat)
    case atStart => exact ⟨0, [], fun _ => 0, rfl, Nat.zero_le _, rfl, Lib.hid (OwnK.nil_ _ _ _ _ _), Lib.hid (fun i p hp => by simp at hp), Lib.hid (fun i => (fits_of (n := 0) (by omega) (by omega)).mono (by omega)), Below.refl _ _⟩
    case round =>
      obtain ⟨k, ps, q, rfl, hk, hpl, hown, hps, hq, hbr⟩ := hrel
      have B5 := below_seq B8 hbr
      by_cases hkc : k < n
      · have hkc' := Int.ofNat_lt.2 hkc
        by_cases hkx : k < xs.length
        case' pos =>
          have hkx' := Int.ofNat_lt.2 hkx
          obtain ⟨y, hy⟩ : ∃ y, xs[k]? = some y := ⟨xs[k], by simp [hkx]⟩
          obtain ⟨gy, oy, rfl, hcy⟩ := HXC.out k y hy
          have hcy' := cell_keep hcy B5
          have hyl := HXB.out y (List.mem_of_getElem? hy)
          have CT : Hid (∀ W, Calls Tryz.prog 26 #[.string ⟨y.toArray⟩, .int .i64 20] W (Keeps (.string ⟨(y.take 20).toArray⟩) W)) := Lib.hid fun W => law_Text W y 20 hyl (by omega)
          obtain ⟨V, hV⟩ : ∃ V : List UInt8, V = y.take 20 := ⟨_, rfl⟩
          have hVl : V.length ≤ 1000000 := by rw [hV, List.length_take]; omega
          rw [← hV] at CT
          clear hy hcy hyl hV
          go_wp2_with fail
          go_at_call 26
          refine (CT.out _).mono ?_
          rintro e wz ⟨rfl, hbz⟩
          clear CT
          go_upto_region 19 with fail
        case' neg =>
          have hkx' : ¬ ((k : Nat) : Int) < ((xs.length : Nat) : Int) := fun h => hkx (Int.ofNat_lt.1 h)
          obtain ⟨V, hV⟩ : ∃ V : List UInt8, V = [49] := ⟨_, rfl⟩
          have hVl : V.length ≤ 1000000 := by rw [hV]; simp
          have HVE : Hid ((⟨#[49]⟩ : ByteArray) = ⟨V.toArray⟩) := Lib.hid (by rw [hV])
          obtain ⟨wz, hwz⟩ : ∃ X, X = wr := ⟨_, rfl⟩
          have hbz : Below wr.heap.size wr wz := by rw [hwz]; exact Below.refl _ _
          have HWZ := Lib.hid hwz
          clear hV hwz hkx
          go_upto_region 19 with fail
          rw [HVE.out, ← HWZ.out]
        all_goals
          have CFV := Lib.hid (CF.out wz V hVl (below_seq B5 hbz))
          go_wp2_with fail
          go_at_call 27
          refine CFV.out.mono ?_
          rintro e w4 ⟨z, qz, rfl, hz4, hqz, hb4'⟩
          have hb4 := below_seq hbz hb4'
          obtain ⟨z0, rfl⟩ := hz4.ptr
          have hal : Below w4.heap.size w4 (w4.alloc (.cells #[.pointer z0] 31)) := (Below.refl _ _).alloc (Nat.le_refl _) _
          have hB5 : Below wr.heap.size wr (w4.alloc (.cells #[.pointer z0] 31)) := hb4.alloc hb4.size _
          have hown5 := Lib.hid (hown.out.keep hB5)
          have hnew5 : Hid (∀ (j : Nat) u, [Value.pointer z0][j]? = some u → (w4.alloc (.cells #[.pointer z0] 31)).cell? ((⟨w4.heap.size, 0, none⟩ : Addr).add j) = some u) := Lib.hid fun j u hj => by
            rcases j with _ | j
            · cases hj
              exact (Row.new _ _ _).cell 0
            · simp at hj
          have hk5 : w8.heap.size ≤ (w4.alloc (.cells #[.pointer z0] 31)).heap.size := Nat.le_trans hbr.size hB5.size
          have HZ4 := Lib.hid (hz4.keep hal)
          clear hz4 CFV hbz hb4'
          go_wp2_with (at_builtin; refine wpList_append_ownK (Kd := ptrKind) rfl (.tmp 77) (.tmp 80) 54 rfl w8.heap.size 31 i1 _ 1 Tryz.underlying54 hi1 hz1 hsz1 rfl (by omega) _ k _ rfl hown5.out ⟨w4.heap.size, 0, none⟩ 1 1 [Value.pointer z0] rfl (by simp) hnew5.out (by simp [Value.oneCell']) (by simp [ptrKind]) (by simp [ptrKind, Value.cells]) (by omega) (by unfold maxLen; omega) (by rw [hby1]; omega) hk5 ?_; intro v6 w6 hown6 hgr6 hloc6; refine Hid.out ?_)
          have hps6 : Hid (∀ (j : Nat) p, (ps ++ [z0])[j]? = some p → FracPtr w6 (.pointer p) (if j = k then qz else q j)) := Lib.hid fun j p hj => by
            refine frs_grown hown5.out hgr6 ?_
            rcases Nat.lt_or_ge j k with h4 | h4
            · rw [List.getElem?_append_left (by omega)] at hj
              rw [if_neg (by omega)]
              exact (hps.out j p hj).keep hB5
            · rw [List.getElem?_append_right (by omega)] at hj
              rcases hjn : j - ps.length with _ | m
              · rw [hjn] at hj
                simp only [List.getElem?_cons_zero, Option.some.injEq] at hj
                subst hj
                obtain rfl : j = k := by omega
                rw [if_pos rfl]
                exact HZ4.out
              · rw [hjn] at hj; simp at hj
          have hB6 : Below w8.heap.size w8 w6 := hown.out.below hbr hB5 hgr6 hbr.size
          have HO6 : Hid (OwnK ptrKind w6 w8.heap.size 31 1 v6 (k + 1) ((ps ++ [z0]).map Value.pointer)) := by
            rw [List.map_append]
            exact hown6
          have HQ6 : Hid (∀ i, Fits 2000 (if i = k then qz else q i)) := Lib.hid fun i => by
            split
            · exact hqz
            · exact hq.out i
          have HPL : (ps ++ [z0]).length = k + 1 := by rw [List.length_append, hpl]; rfl
          clear hown6
          refine Lib.hid ?_
          go_wp2_with fail
          go_roundw
          case rel => exact ⟨k + 1, ps ++ [z0], _, rfl, by omega, HPL, HO6, hps6, HQ6, hB6⟩
          case measure => simp [intOf]; omega
      · obtain rfl : k = n := by omega
        have hfx := own_frin hown.out h0n hpl hps.out
        have zr := below_seq z8 hbr
        have CS := Lib.hid (mat_SolveR wr (.pointer (some ⟨mb, 0, none⟩)) _ k k 2000 M q (HMR.out _ zr) hfx HFM.out (fun i _ => hq.out i) (by omega) (Nat.le_trans HL5.out (by omega)) (by omega) h0n (by omega) h0n)
        obtain ⟨gx, ox, cx, rfl, hcx, bx, hbx⟩ := hfx.pick
        have HBX := Lib.hid hbx
        have HB := Lib.hid B5
        have z4r := Lib.hid (below_seq hb5 (below_seq hb6 (below_seq hb7 (below_seq hb8 hbr))))
        clear hown hps B5 hfx hbx
        go_wp2_with fail
        go_at_call 41
        refine CS.out.mono ?_
        rintro e w9 h9
        obtain ⟨hb9, ⟨hrn, rfl⟩ | ⟨hry, sv, ss, rfl, hsl, hso, hsf⟩⟩ := solved_square h9
        · exact absurd HRY.out hrn
        · obtain ⟨S, hS⟩ : ∃ S : Nat → Rat, S = fun j => redM k k (aug M (fun i _ => q i) k) j k := ⟨_, rfl⟩
          have hfS : ∀ j, j < k → Fits 6250000 (S j) := fun j hj => by rw [hS]; exact (fits_solve HFM.out (fun i _ => hq.out i) (by omega) j hj).mono HL5.out
          have hSM : ∀ i, i < k → sigma k (fun j => M i j * S j) = q i := fun i hi => by rw [hS]; exact solve_times HRY.out hi
          have hfs := own_frin (q := S) hso h0n hsl (by rw [hS]; exact hsf)
          have z9 := below_seq zr hb9
          have CTM := Lib.hid (mat_Times w9 (.pointer (some ⟨mb, 0, none⟩)) sv k k 6250000 M S (HMR.out _ z9) hfs (fun i j hi hj => (HFM.out i j hi hj).mono (by omega)) hfS h0n (by omega) (by omega) (by omega))
          have CML : Hid (∀ W, Below w9.heap.size w9 W → Calls Tryz.prog 43 #[.pointer (some ⟨mb, 0, none⟩), .pointer (some ⟨ib, 0, none⟩)] W (fun e w' => ∃ z, e = .returned (.tuple #[z, .bool true]) ∧ MatR w' z k k (mulM k M (invM k M)) ∧ Below W.heap.size W w')) := Lib.hid fun W h => mat_Mul W _ _ k k k 6250000 M (invM k M) (HMR.out _ (below_seq z9 h)) (HIZ.out _ (below_seq (below_seq z4r.out hb9) h)) (fun i j hi hj => (HFM.out i j hi hj).mono (by omega)) (fun i j hi hj => (fits_inv HFM.out (by omega) i j hi hj).mono HL5.out) h0n h0n h0n (by omega) (by omega) (by omega) (by omega)
          obtain ⟨gs, os, cs', rfl, _, _⟩ := hfs
          have HSM := Lib.hid hSM
          clear h9 CS hry hsl hso hsf hfS hS hSM zr
          go_wp2_with fail
          go_at_call 28
          refine CTM.out.mono ?_
          rintro e w10 ⟨yv, rfl, hyv, hb10⟩
          obtain ⟨gy, oy', cy, rfl, hcy2, by_, hby_⟩ := hyv.pick
          have HBY : Hid (∀ j, j < k → w10.cell? ⟨gy, oy' + j, none⟩ = some (.pointer (by_ j)) ∧ FracPtr w10 (.pointer (by_ j)) (q j)) := Lib.hid fun j hj => by
            have := hby_ j hj
            rw [HSM.out j hj] at this
            exact this
          clear hyv hby_ CTM
          go_wp2_with fail
          go_at_call 43
          refine (CML.out _ hb10).mono ?_
          rintro e w11 ⟨pz, rfl, hpz, hb11⟩
          obtain ⟨pb, rfl⟩ := hpz.shape
          have z911 := below_seq hb10 hb11
          have HPZ : Hid (∀ W, Below w11.heap.size w11 W → MatR W (.pointer (some ⟨pb, 0, none⟩)) k k (mulM k M (invM k M))) := Lib.hid fun W h => hpz.keep h
          have ZW : Hid (∀ W, Below w11.heap.size w11 W → Below w.heap.size w W) := Lib.hid fun W h => below_seq (below_seq HB.out (below_seq hb9 z911)) h
          have HK : Hid (∀ W j, Below w11.heap.size w11 W → j < k → W.cell? ⟨gy, oy' + j, none⟩ = some (.pointer (by_ j)) ∧ W.cell? ⟨gx, ox + j, none⟩ = some (.pointer (bx j)) ∧ FracPtr W (.pointer (by_ j)) (q j) ∧ FracPtr W (.pointer (bx j)) (q j)) := Lib.hid fun W j h hj => by
            have y1 := below_seq hb11 h
            have y2 := below_seq (below_seq hb9 z911) h
            exact ⟨cell_keep (HBY.out j hj).1 y1, cell_keep (HBX.out j hj).1 y2, (HBY.out j hj).2.keep y1, (HBX.out j hj).2.keep y2⟩
          have HINV : Hid (∀ i j, i < k → j < k → mulM k M (invM k M) i j = delta i j) := Lib.hid (inv_right HRY.out)
          have HTT : Hid (∀ W, Below w11.heap.size w11 W → Tab W) := Lib.hid fun W h => HT.out.keep (ZW.out W h)
          obtain ⟨P, hP⟩ : ∃ P, P = mulM k M (invM k M) := ⟨_, rfl⟩
          rw [← hP] at HPZ HINV
          clear hpz HBY HBX CML hb9 hb10 hb11 z911 z9 HSM hbr hb4 hb5 hb6 hb7 hb8 z5 z6 z7 z8 z4r hP HB B8 B3 B2 hb1' hb2' hb3 HIZ HMR HXC HXB hrk2 CF
          go_wp2_with fail
          go_loopw [22] (fun t wx => ∃ j : Nat, t = .int .i64 j ∧ j ≤ k ∧ Below w11.heap.size w11 wx) (fun t _ => k - (intOf t).toNat)
          case atStart => exact ⟨0, rfl, Nat.zero_le _, Below.refl _ _⟩
          case round =>
            obtain ⟨j, rfl, hj, hbx⟩ := hrel
            by_cases hjk : j < k
            · have hjk' := Int.ofNat_lt.2 hjk
              have HC : Hid (∀ W, Below wr.heap.size wr W → W.cell? ⟨gy, oy' + j, none⟩ = some (.pointer (by_ j)) ∧ W.cell? ⟨gx, ox + j, none⟩ = some (.pointer (bx j)) ∧ FracPtr W (.pointer (by_ j)) (q j) ∧ FracPtr W (.pointer (bx j)) (q j)) := Lib.hid fun W h => HK.out W j (below_seq hbx h) hjk
              have hqj := hq.out j
              obtain ⟨Q, hQ⟩ : ∃ Q, Q = q j := ⟨_, rfl⟩
              rw [← hQ] at HC hqj
              clear hQ
              go_wp2_with fail
              refine wp_region_held (S := fun W => Below wr.heap.size wr W) (by kernel_rfl) ?_
              change wpAnyH _ _ _ _ _ _ _ _ (World.drew _)
              obtain ⟨W0, hW0⟩ : ∃ X, X = (wr).drew := ⟨_, rfl⟩
              rw [← hW0]
              have z0 : Below (wr).heap.size (wr) W0 := by rw [hW0]; exact Below.drewN_ (Below.refl _ _) 1
              clear hW0
              refine wpAnyH_take (i := 0) (oi := vsolve30_0) (v := .slice (some ⟨gy, oy', none⟩) k cy) rfl (by kernel_rfl) (by kernel_rfl) (by kernel_rfl) (fun _ _ _ h => h) (Or.inl ⟨by kernel_rfl, ?_⟩) (z0) ?_
              · intro w hSw; go_simp <;> first | omega | (intro hh; exfalso; omega) | rfl
              try simp only [Act.put, List.setIfInBounds_toArray, List.set_cons_zero, List.set_cons_succ, vsolve30_0]
              refine wpAnyH_take (i := 1) (oi := vsolve30_1) (v := .int .i64 j) rfl (by kernel_rfl) (by kernel_rfl) (by kernel_rfl) (fun _ _ _ h => h) (Or.inl ⟨by kernel_rfl, ?_⟩) (z0) ?_
              · intro w hSw; go_simp <;> first | omega | (intro hh; exfalso; omega) | rfl
              try simp only [Act.put, List.setIfInBounds_toArray, List.set_cons_zero, List.set_cons_succ, vsolve30_1]
              refine wpAnyH_take (i := 2) (oi := vsolve30_2) (v := .pointer (some ⟨gy, oy' + j, none⟩)) rfl (by kernel_rfl) (by kernel_rfl) (by kernel_rfl) (fun _ _ _ h => h) (Or.inl ⟨by kernel_rfl, ?_⟩) (z0) ?_
              · intro w hSw; go_simp <;> first | omega | (intro hh; exfalso; omega) | rfl
              try simp only [Act.put, List.setIfInBounds_toArray, List.set_cons_zero, List.set_cons_succ, vsolve30_2]
              refine wpAnyH_take (i := 3) (oi := vsolve30_3) (v := .pointer (by_ j)) rfl (by kernel_rfl) (by kernel_rfl) (by kernel_rfl) (fun _ _ _ h => h) (Or.inl ⟨by kernel_rfl, ?_⟩) (z0) ?_
              · intro w hSw; obtain ⟨e0, e1, _, _⟩ := HC.out w hSw; go_simp <;> first | omega | (intro hh; exfalso; omega) | rfl
              try simp only [Act.put, List.setIfInBounds_toArray, List.set_cons_zero, List.set_cons_succ, vsolve30_3]
              refine wpAnyH_take (i := 4) (oi := vsolve30_4) (v := .slice (some ⟨gx, ox, none⟩) k cx) rfl (by kernel_rfl) (by kernel_rfl) (by kernel_rfl) (fun _ _ _ h => h) (Or.inl ⟨by kernel_rfl, ?_⟩) (z0) ?_
              · intro w hSw; go_simp <;> first | omega | (intro hh; exfalso; omega) | rfl
              try simp only [Act.put, List.setIfInBounds_toArray, List.set_cons_zero, List.set_cons_succ, vsolve30_4]
              refine wpAnyH_take (i := 5) (oi := vsolve30_5) (v := .int .i64 j) rfl (by kernel_rfl) (by kernel_rfl) (by kernel_rfl) (fun _ _ _ h => h) (Or.inl ⟨by kernel_rfl, ?_⟩) (z0) ?_
              · intro w hSw; go_simp <;> first | omega | (intro hh; exfalso; omega) | rfl
              try simp only [Act.put, List.setIfInBounds_toArray, List.set_cons_zero, List.set_cons_succ, vsolve30_5]
              refine wpAnyH_take (i := 6) (oi := vsolve30_6) (v := .pointer (some ⟨gx, ox + j, none⟩)) rfl (by kernel_rfl) (by kernel_rfl) (by kernel_rfl) (fun _ _ _ h => h) (Or.inl ⟨by kernel_rfl, ?_⟩) (z0) ?_
              · intro w hSw; go_simp <;> first | omega | (intro hh; exfalso; omega) | rfl
              try simp only [Act.put, List.setIfInBounds_toArray, List.set_cons_zero, List.set_cons_succ, vsolve30_6]
              refine wpAnyH_take (i := 7) (oi := vsolve30_7) (v := .pointer (bx j)) rfl (by kernel_rfl) (by kernel_rfl) (by kernel_rfl) (fun _ _ _ h => h) (Or.inl ⟨by kernel_rfl, ?_⟩) (z0) ?_
              · intro w hSw; obtain ⟨e0, e1, _, _⟩ := HC.out w hSw; go_simp <;> first | omega | (intro hh; exfalso; omega) | rfl
              try simp only [Act.put, List.setIfInBounds_toArray, List.set_cons_zero, List.set_cons_succ, vsolve30_7]
              refine wpAnyH_ready (rs := [8]) (by kernel_rfl) (by simp) ?_
              apply AllReadyH.cons (o := vsolve30_8) (by kernel_rfl)
              case hs => exact AllReadyH.nil
              intro K hK
              simp only [vsolve30_8]
              go_simp
              go_at_call 30
              refine (frac_Cmp_same _ _ _ Q (HC.out _ z0).2.2.1.at_ (HC.out _ z0).2.2.2.at_ (hqj.mono (by omega))).mono ?_
              rintro e' w12 ⟨rfl, hb12⟩
              have z12 := below_seq z0 hb12
              refine hK.out _ _ (z12) (fun hHeld => ?_)
              clear hK K hHeld
              try simp only [Act.put, List.setIfInBounds_toArray, List.set_cons_zero, List.set_cons_succ]
              refine wpAnyH_take (i := 9) (oi := vsolve30_9) (v := .bool false) rfl (by kernel_rfl) (by kernel_rfl) (by kernel_rfl) (fun _ _ _ h => h) (Or.inl ⟨by kernel_rfl, ?_⟩) (z12) ?_
              · intro w hSw; go_simp <;> first | omega | (intro hh; exfalso; omega) | rfl
              try simp only [Act.put, List.setIfInBounds_toArray, List.set_cons_zero, List.set_cons_succ, vsolve30_9]
              refine wpAnyH_done (by kernel_rfl) ?_ _
              have zx := below_seq hbx z12
              obtain ⟨wv, hwv⟩ : ∃ X, X = w12 := ⟨_, rfl⟩
              go_wp2_with fail
              go_loopw [23] (fun t wy => ∃ m : Nat, t = .int .i64 m ∧ m ≤ k ∧ Below w11.heap.size w11 wy) (fun t _ => k - (intOf t).toNat)
              case atStart => exact ⟨0, rfl, Nat.zero_le _, zx⟩
              case round =>
                obtain ⟨m, rfl, hm, hby⟩ := hrel
                by_cases hmk : m < k
                · have hmk' := Int.ofNat_lt.2 hmk
                  have CA := Lib.hid (mat_At wr _ k k j m P (HPZ.out _ hby) hjk hmk (by omega) (by omega))
                  rw [HINV.out j m hjk hmk] at CA
                  have CX : Hid (∀ W v, Below wr.heap.size wr W → FracPtr W v (delta j m) → Calls Tryz.prog 18 #[v] W (Keeps (.string ⟨(fracText (delta j m)).toArray⟩) W)) := Lib.hid fun W v h hv => frac_Text W v _ hv.at_ ((fits_delta j m).mono (by omega)) (HTT.out W (below_seq hby h))
                  by_cases hjm : j = m
                  case' pos =>
                    have hjm' : ((j : Int) == (m : Int)) = true := by rw [beq_iff_eq]; omega
                    have htx : fracText (delta j m) = [49] := by rw [hjm, delta_self]; exact text_n 1 (by omega)
                    rw [htx] at CX
                  case' neg =>
                    have hjm' : ((j : Int) == (m : Int)) = false := by rw [beq_eq_false_iff_ne]; omega
                    have htx : fracText (delta j m) = [48] := by rw [delta_ne hjm]; exact fracText_zero
                    rw [htx] at CX
                  all_goals
                    clear hjm htx
                    go_wp2_with fail
                    go_at_call 45
                    refine CA.out.mono ?_
                    rintro e w13 ⟨az, rfl, haz, hb13⟩
                    have CX13 := Lib.hid (CX.out _ _ hb13 haz)
                    obtain ⟨pa, rfl⟩ := haz.ptr
                    clear haz CX
                    go_wp2_with fail
                    go_at_call 18
                    refine CX13.out.mono ?_
                    rintro e w14 ⟨rfl, hb14⟩
                    have zz := Lib.hid (below_seq hby (below_seq hb13 hb14))
                    go_wp2_with fail
                    go_roundw
                    case rel => exact ⟨m + 1, by go_num, by omega, zz.out⟩
                    case measure => simp [intOf]; omega
                · obtain rfl : m = k := by omega
                  go_wp2_with fail
                  exact ⟨⟨j + 1, by go_num, by omega, hby⟩, by simp [intOf]; omega⟩
            · obtain rfl : j = k := by omega
              go_wp2_with fail
              go_ret
              exact ⟨rfl, ZW.out _ hbx⟩
end Go.Proofs.YthephiihcgibjaaGreatDoor
