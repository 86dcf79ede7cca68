/- The law NatLong: texts of two thousand digits, and not one more. -/
import Derived.Test.YtohjljbhfopffaaGreatDoorJWalkH
import Derived.Test.YtohjljbhfopffaaGreatDoorJWalkI
import Derived.Deep.RegionHeld3
import Derived.Deep.RegionWith
set_option linter.unusedVariables false
set_option linter.unusedSimpArgs false
namespace Vic
open Go Go.RowKit
theorem rep_good (b : UInt8) (n : Nat) (hb : isDig b = true) (h48 : b ≠ 48) (h0 : 0 < n) : GoodNat (List.replicate n b) ↔ n ≤ 2000 := by
  constructor
  · intro h; simpa using h.2
  · intro h
    refine ⟨⟨?_, fun c hc => ?_, .inr ?_⟩, by simpa using h⟩
    · intro e; rw [List.replicate_eq_nil_iff] at e; omega
    · rw [List.mem_replicate] at hc; rw [hc.2]; exact hb
    · obtain ⟨m, rfl⟩ : ∃ m, n = m + 1 := ⟨n - 1, by omega⟩
      simp [List.replicate_succ, h48]
end Vic
namespace Go.Proofs.YtohjljbhfopffaaGreatDoor
open Go.RowKit Vic
theorem info_u80 : (Tryz.prog.info? 5).map (fun i => (i.zero, i.size, i.bytes)) = some (some (.int .u8 0), 1, 1) := by kernel_rfl
theorem made_u8 (n : Nat) : madeCells #[.int .u8 0] n = vals .u8 (List.replicate n 0) := by
  apply Array.ext'
  rw [toList_madeCells_one]
  simp [vals]
theorem mk_u8 (n : Nat) (hn : n ≤ 10000000000) (w : World) :
    (Instr.makeSlice 37 (.int .i64 n) (.int .i64 n)).run Tryz.prog w = .ok (.slice (some ⟨w.heap.size, 0, none⟩) n n) (w.alloc (.cells (vals .u8 (List.replicate n 0)) 5)) := by
  rw [run_make_row' 37 5 _ 1 Tryz.underlying37 info_u80 rfl .i64 .i64 n (by omega) (by omega) w, made_u8]

set_option maxRecDepth 100000 in
set_option maxHeartbeats 4000000 in
theorem law_NatLong (w : World) (ht : Tab w) (n : Int) (c : Nat) (h1 : -9223372036854775808 ≤ n) (h2 : n ≤ 9223372036854775807) (hc : c < 256) :
    Calls Tryz.prog 4 #[.int .i64 n, .int .u8 c] w (Keeps (.bool true) w) := by
  have CB := Lib.hid (law_begun w ht)
  obtain ⟨N, hN⟩ : ∃ N : Nat, (N : Int) = 1995 + n % 10 := ⟨(1995 + n % 10).toNat, by omega⟩
  have hN1 : 1995 ≤ N := by omega
  have hN2 : N ≤ 2004 := by omega
  have e1 : wrap64 (1995 + ((wrap64 (n.tmod 10 + 10)).tmod 10)) = (N : Int) := by
    have h5 : -10 < n.tmod 10 ∧ n.tmod 10 < 10 := ⟨Int.lt_tmod_of_pos n (by omega), Int.tmod_lt_of_pos n (by omega)⟩
    rw [show wrap64 (n.tmod 10 + 10) = n.tmod 10 + 10 by unfold wrap64; omega, Int.tmod_eq_emod_of_nonneg (by omega), hN, Int.tmod_eq_emod]
    unfold wrap64
    split <;> omega
  have hmk := mk_u8 N (by omega)
  have HT := Lib.hid ht
  clear hN ht
  go_enter Tryz.func4, Tryz.ntmps4
  go_wp2_with fail
  refine CB.out.mono ?_
  rintro e w1 ⟨rfl, hb1⟩
  go_wp2_with fail
  obtain ⟨d, hd⟩ : ∃ d, d = 49 + c % 9 := ⟨_, rfl⟩
  have hd1 : 49 ≤ d := by omega
  have hd2 : d ≤ 57 := by omega
  have HD : Hid (IntKind.u8.wrap (49 + (c : Int) % 9) = (d : Int)) := by
    show _ = _
    rw [IntKind.wrap_u8']; omega
  clear hd CB hmk
  have h12 : Below w1.heap.size w1 (w1.alloc (.cells (vals .u8 (List.replicate N 0)) 5)) := (Below.refl _ _).alloc (Nat.le_refl _) _
  go_loopw [22] (fun t wr => ∃ (k : Nat) (o : List Nat), t = .int .i64 k ∧ k ≤ N ∧ o.length = N ∧ Hid (∀ j, j < k → o.getD j 0 = d) ∧ Hid (Row wr w1.heap.size 5 (vals .u8 o)) ∧ Below w1.heap.size w1 wr) (fun t _ => N - (intOf t).toNat)
  case atStart => exact ⟨0, _, rfl, by omega, by simp, fun j h => by omega, Row.new _ _ _, h12⟩
  case round =>
    obtain ⟨k, o, rfl, hk, hol, hok, hrow, hbr⟩ := hrel
    by_cases hlt : k < N
    · have hcell := hrow.out.cell k
      rw [vals_get .u8 o k (by omega)] at hcell
      have hfree := hrow.out.free k
      have hr2 := Lib.hid (Row.set hrow.out k (.int .u8 (d : Int)))
      rw [vals_set] at hr2
      have hok2 : Hid (∀ j, j < k + 1 → (o.set k d).getD j 0 = d) := Lib.hid fun j hj => by
        by_cases e : j = k
        · subst e; exact set_getD_same _ _ _ (by omega)
        · rw [set_getD_other _ _ _ _ e]; exact hok.out j (by omega)
      have hw0 : IntKind.i64.wrap ((k : Int) + 1) = ((k + 1 : Nat) : Int) := by rw [IntKind.wrap_i64]; omega
      have hd0 := HD.out
      go_wp2_with fail
      go_roundw
      case rel => exact ⟨k + 1, _, by go_num, by omega, by simp [hol], hok2, hr2, hbr.setCell (p := ⟨w1.heap.size, k, none⟩) (Nat.le_refl _) _⟩
      case measure => simp [intOf]; omega
    · obtain rfl : k = N := by omega
      obtain ⟨b, hb⟩ : ∃ b : UInt8, b = UInt8.ofNat d := ⟨_, rfl⟩
      have hbn : b.toNat = d := by rw [hb]; simp; omega
      have hbd : isDig b = true := isDig_iff.2 (by omega)
      have hb48 : b ≠ 48 := fun e => by rw [e] at hbn; simp at hbn; omega
      have HG := Lib.hid (rep_good b k hbd hb48 (by omega))
      obtain ⟨l, hl⟩ : ∃ l, l = List.replicate k b := ⟨_, rfl⟩
      have hll : l.length = k := by rw [hl]; simp
      have hcv : Hid (∀ W, Below wr.heap.size wr W → (convert 37 9 (.slice (some ⟨w1.heap.size, 0, none⟩) k k)).run Tryz.prog W = .ok (.string ⟨l.toArray⟩) W) := Lib.hid fun W hW => by
        have h := run_convert_bytes_back (P := Tryz.prog) W 37 9 5 ⟨w1.heap.size, 0, none⟩ k l (by kernel_rfl) (by kernel_rfl) (by kernel_rfl) (fun j hj => by
          rw [show (⟨w1.heap.size, 0, none⟩ : Addr).add j = ⟨w1.heap.size, 0 + j, none⟩ by simp [Addr.add]; omega, Nat.zero_add]
          rw [(Row.keep hrow.out hW).cell, vals_get .u8 o j (by omega), hok.out j (by omega)]
          have : l[j] = b := by simp [hl]
          rw [this, hbn])
        rwa [hll] at h
      have hcv0 := hcv.out wr (Below.refl _ _)
      have hB : Below w.heap.size w wr := below_seq hb1 hbr
      have hslot : wrap64 (1995 + (wrap64 (n.tmod 10 + 10)).tmod 10) = (k : Int) := e1
      rw [← hl] at HG
      by_cases hk2 : k ≤ 2000
      · have hgood := HG.out.2 hk2
        have CG := Lib.hid (nat_Get_yes wr l hgood)
        have hnum : Hid (Lib.decDigits (numOf 0 l) = l) := dec_numOf hgood.1
        have hsz : Hid (sz (numOf 0 l) ≤ 1000000) := good_sz hgood
        have hki : ((k : Nat) : Int) ≤ 2000 := by omega
        clear hok hrow HG hl hgood h12 hol hb48 hbd hb hbn hd1 hd2 HD
        go_wp2_with fail
        refine CG.out.mono ?_
        rintro e w2 ⟨x2, rfl, hx2, hb2⟩
        obtain ⟨b2, A2, c2, rfl, _, _⟩ := id hx2.open_
        have CT : Hid (∀ W, Below w2.heap.size w2 W → Calls Tryz.prog 20 #[.pointer (some ⟨b2, 0, none⟩)] W (fun e w' => e = .returned (.string ⟨l.toArray⟩) ∧ Below w2.heap.size w2 w')) := Lib.hid fun W hW => by
          refine (nat_Text W _ _ (hx2.keep hW).at_ hsz.out (HT.out.keep (below_seq (below_seq hB hb2) hW))).mono ?_
          rintro e w' ⟨rfl, hb⟩
          rw [hnum.out]
          exact ⟨rfl, hW.trans (hb.mono hW.size)⟩
        clear hx2
        have Z0 : Below w2.heap.size w2 w2 := Below.refl _ _
        have Z1 : Below w2.heap.size w2 w2.drew := ⟨rfl, rfl, rfl, Nat.le_refl _, fun _ _ => rfl⟩
        have hc2 : Hid (∀ W, Below w2.heap.size w2 W → (convert 37 9 (.slice (some ⟨w1.heap.size, 0, none⟩) k k)).run Tryz.prog W = .ok (.string ⟨l.toArray⟩) W) := Lib.hid fun W hW => hcv.out W (below_seq hb2 hW)
        have hcA := hc2.out w2 Z0
        have hcB := hc2.out _ Z1
        have hb02 := below_seq hB hb2
        have hbe : (l == l) = true := beq_self_eq_true l
        clear hcv0
        go_wp2_with fail
        have hkd : decide (((k : Nat) : Int) ≤ 2000) = true := decide_eq_true (by omega)
        clear hcv hslot hki hk2 hk hlt e1 hc h1 h2 CG hnum hsz hB hN1 hN2 HT
        refine wp_region_any (by kernel_rfl) ?_
        change wpAny _ _ _ _ _ _ _ (World.drew _)
        refine wpAny_take (i := 0) (v := .bool true) rfl (by kernel_rfl) (by kernel_rfl) (by kernel_rfl) (fun _ _ _ h => h) (Or.inl ⟨by kernel_rfl, ?_⟩) ?_
        · intro w; go_simp
        refine wpAny_take (i := 1) (v := .int .i64 k) rfl (by kernel_rfl) (by kernel_rfl) (by kernel_rfl) (fun _ _ _ h => h) (Or.inl ⟨by kernel_rfl, ?_⟩) ?_
        · intro w; go_simp
        refine wpAny_take (i := 2) (v := .bool true) rfl (by kernel_rfl) (by kernel_rfl) (by kernel_rfl) (fun _ _ _ h => h) (Or.inl ⟨by kernel_rfl, ?_⟩) ?_
        · intro w; go_simp
        refine wpAny_take (i := 3) (v := .bool true) rfl (by kernel_rfl) (by kernel_rfl) (by kernel_rfl) (fun _ _ _ h => h) (Or.inl ⟨by kernel_rfl, ?_⟩) ?_
        · intro w; go_simp
        refine wpAny_take (i := 4) (v := .bool true) rfl (by kernel_rfl) (by kernel_rfl) (by kernel_rfl) (fun _ _ _ h => h) (Or.inl ⟨by kernel_rfl, ?_⟩) ?_
        · intro w; go_simp
        refine wpAny_take (i := 5) (v := .bool true) rfl (by kernel_rfl) (by kernel_rfl) (by kernel_rfl) (fun _ _ _ h => h) (Or.inl ⟨by kernel_rfl, ?_⟩) ?_
        · intro w; go_simp
        refine wpAny_take (i := 6) (v := .bool true) rfl (by kernel_rfl) (by kernel_rfl) (by kernel_rfl) (fun _ _ _ h => h) (Or.inl ⟨by kernel_rfl, ?_⟩) ?_
        · intro w; go_simp
        refine wpAny_take (i := 7) (v := .pointer (some ⟨b2, 0, none⟩)) rfl (by kernel_rfl) (by kernel_rfl) (by kernel_rfl) (fun _ _ _ h => h) (Or.inl ⟨by kernel_rfl, ?_⟩) ?_
        · intro w; go_simp
        refine wpAny_take (i := 9) (v := .slice (some ⟨w1.heap.size, 0, none⟩) k k) rfl (by kernel_rfl) (by kernel_rfl) (by kernel_rfl) (fun _ _ _ h => h) (Or.inl ⟨by kernel_rfl, ?_⟩) ?_
        · intro w; go_simp
        refine wpAny_ready (rs := [8, 10]) (by kernel_rfl) (by simp) ?_
        refine AllReady.cons rfl (fun K hK => ?_) (AllReady.cons rfl (fun K hK => ?_) AllReady.nil)
        · go_simp
          refine (CT.out _ Z1).mono ?_
          rintro e w5 ⟨rfl, hb5⟩
          refine hK _ _ ?_
          clear hK K
          have hc5 := hc2.out _ hb5
          refine wpAny_ready (rs := [10]) (by kernel_rfl) (by simp) ?_
          refine AllReady.cons rfl (fun K hK => ?_) AllReady.nil
          go_simp
          refine hK _ _ ?_
          clear hK K
          refine wpAny_take (i := 11) (v := .bool true) rfl (by kernel_rfl) (by kernel_rfl) (by kernel_rfl) (fun _ _ _ h => h) (Or.inl ⟨by kernel_rfl, ?_⟩) ?_
          · intro w; go_simp
          refine wpAny_take (i := 12) (v := .bool true) rfl (by kernel_rfl) (by kernel_rfl) (by kernel_rfl) (fun _ _ _ h => h) (Or.inl ⟨by kernel_rfl, ?_⟩) ?_
          · intro w; go_simp
          refine wpAny_take (i := 13) (v := .bool true) rfl (by kernel_rfl) (by kernel_rfl) (by kernel_rfl) (fun _ _ _ h => h) (Or.inl ⟨by kernel_rfl, ?_⟩) ?_
          · intro w; go_simp
          refine wpAny_take (i := 14) (v := undef) rfl (by kernel_rfl) (by kernel_rfl) (by kernel_rfl) (fun _ _ _ h => h) (Or.inr ⟨by kernel_rfl, rfl⟩) ?_
          refine wpAny_take (i := 15) (v := undef) rfl (by kernel_rfl) (by kernel_rfl) (by kernel_rfl) (fun _ _ _ h => h) (Or.inr ⟨by kernel_rfl, rfl⟩) ?_
          refine wpAny_take (i := 16) (v := undef) rfl (by kernel_rfl) (by kernel_rfl) (by kernel_rfl) (fun _ _ _ h => h) (Or.inr ⟨by kernel_rfl, rfl⟩) ?_
          refine wpAny_take (i := 17) (v := undef) rfl (by kernel_rfl) (by kernel_rfl) (by kernel_rfl) (fun _ _ _ h => h) (Or.inr ⟨by kernel_rfl, rfl⟩) ?_
          refine wpAny_take (i := 18) (v := undef) rfl (by kernel_rfl) (by kernel_rfl) (by kernel_rfl) (fun _ _ _ h => h) (Or.inr ⟨by kernel_rfl, rfl⟩) ?_
          refine wpAny_take (i := 19) (v := undef) rfl (by kernel_rfl) (by kernel_rfl) (by kernel_rfl) (fun _ _ _ h => h) (Or.inr ⟨by kernel_rfl, rfl⟩) ?_
          refine wpAny_take (i := 20) (v := .bool true) rfl (by kernel_rfl) (by kernel_rfl) (by kernel_rfl) (fun _ _ _ h => h) (Or.inl ⟨by kernel_rfl, ?_⟩) ?_
          · intro w; go_simp
          refine wpAny_take (i := 21) (v := .bool true) rfl (by kernel_rfl) (by kernel_rfl) (by kernel_rfl) (fun _ _ _ h => h) (Or.inl ⟨by kernel_rfl, ?_⟩) ?_
          · intro w; go_simp
          refine wpAny_take (i := 22) (v := .bool true) rfl (by kernel_rfl) (by kernel_rfl) (by kernel_rfl) (fun _ _ _ h => h) (Or.inl ⟨by kernel_rfl, ?_⟩) ?_
          · intro w; go_simp
          refine wpAny_done (by kernel_rfl) ?_ _
          go_wp2_with fail
          go_ret
          exact ⟨by kernel_rfl, below_seq hb02 hb5⟩
        · go_simp
          refine hK _ _ ?_
          clear hK K
          refine wpAny_ready (rs := [8]) (by kernel_rfl) (by simp) ?_
          refine AllReady.cons rfl (fun K hK => ?_) AllReady.nil
          go_simp
          refine (CT.out _ Z1).mono ?_
          rintro e w5 ⟨rfl, hb5⟩
          refine hK _ _ ?_
          clear hK K
          refine wpAny_take (i := 11) (v := .bool true) rfl (by kernel_rfl) (by kernel_rfl) (by kernel_rfl) (fun _ _ _ h => h) (Or.inl ⟨by kernel_rfl, ?_⟩) ?_
          · intro w; go_simp
          refine wpAny_take (i := 12) (v := .bool true) rfl (by kernel_rfl) (by kernel_rfl) (by kernel_rfl) (fun _ _ _ h => h) (Or.inl ⟨by kernel_rfl, ?_⟩) ?_
          · intro w; go_simp
          refine wpAny_take (i := 13) (v := .bool true) rfl (by kernel_rfl) (by kernel_rfl) (by kernel_rfl) (fun _ _ _ h => h) (Or.inl ⟨by kernel_rfl, ?_⟩) ?_
          · intro w; go_simp
          refine wpAny_take (i := 14) (v := undef) rfl (by kernel_rfl) (by kernel_rfl) (by kernel_rfl) (fun _ _ _ h => h) (Or.inr ⟨by kernel_rfl, rfl⟩) ?_
          refine wpAny_take (i := 15) (v := undef) rfl (by kernel_rfl) (by kernel_rfl) (by kernel_rfl) (fun _ _ _ h => h) (Or.inr ⟨by kernel_rfl, rfl⟩) ?_
          refine wpAny_take (i := 16) (v := undef) rfl (by kernel_rfl) (by kernel_rfl) (by kernel_rfl) (fun _ _ _ h => h) (Or.inr ⟨by kernel_rfl, rfl⟩) ?_
          refine wpAny_take (i := 17) (v := undef) rfl (by kernel_rfl) (by kernel_rfl) (by kernel_rfl) (fun _ _ _ h => h) (Or.inr ⟨by kernel_rfl, rfl⟩) ?_
          refine wpAny_take (i := 18) (v := undef) rfl (by kernel_rfl) (by kernel_rfl) (by kernel_rfl) (fun _ _ _ h => h) (Or.inr ⟨by kernel_rfl, rfl⟩) ?_
          refine wpAny_take (i := 19) (v := undef) rfl (by kernel_rfl) (by kernel_rfl) (by kernel_rfl) (fun _ _ _ h => h) (Or.inr ⟨by kernel_rfl, rfl⟩) ?_
          refine wpAny_take (i := 20) (v := .bool true) rfl (by kernel_rfl) (by kernel_rfl) (by kernel_rfl) (fun _ _ _ h => h) (Or.inl ⟨by kernel_rfl, ?_⟩) ?_
          · intro w; go_simp
          refine wpAny_take (i := 21) (v := .bool true) rfl (by kernel_rfl) (by kernel_rfl) (by kernel_rfl) (fun _ _ _ h => h) (Or.inl ⟨by kernel_rfl, ?_⟩) ?_
          · intro w; go_simp
          refine wpAny_take (i := 22) (v := .bool true) rfl (by kernel_rfl) (by kernel_rfl) (by kernel_rfl) (fun _ _ _ h => h) (Or.inl ⟨by kernel_rfl, ?_⟩) ?_
          · intro w; go_simp
          refine wpAny_done (by kernel_rfl) ?_ _
          go_wp2_with fail
          go_ret
          exact ⟨by kernel_rfl, below_seq hb02 hb5⟩
      · have CG := Lib.hid (nat_Get_no wr l (by omega) (fun h => hk2 (HG.out.1 h)))
        have hki : ¬ ((k : Nat) : Int) ≤ 2000 := by omega
        clear hok hrow HG hl h12 hol hb48 hbd hb hbn hd1 hd2 HD
        go_wp2_with fail
        refine CG.out.mono ?_
        rintro e w2 ⟨rfl, hb2⟩
        go_wp2_with fail
        have hkd : decide (((k : Nat) : Int) ≤ 2000) = false := decide_eq_false (by omega)
        go_quiet (fail)
        go_wp2_with fail
        go_ret
        exact ⟨rfl, Vic.Below.drewN_ (below_seq hB hb2) _⟩
end Go.Proofs.YtohjljbhfopffaaGreatDoor
