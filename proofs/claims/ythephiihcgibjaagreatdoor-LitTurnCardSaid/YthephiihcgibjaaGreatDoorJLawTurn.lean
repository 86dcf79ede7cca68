/- The law LitTurn: a literal of which a byte is another one. -/
import Derived.Test.YthephiihcgibjaaGreatDoorJWalkH
import Derived.Test.YthephiihcgibjaaGreatDoorJLitG
import Derived.Test.YthephiihcgibjaaGreatDoorJRefZ
import Derived.Test.YthephiihcgibjaaGreatDoorJStrE
import Derived.Deep.RegionWith
import Derived.Lib.ConvBytes
import Derived.Laws.BytesString
set_option linter.unusedVariables false
set_option linter.unusedSimpArgs false
namespace Vic
open Go Go.RowKit
theorem quo_intT (x : Int) : quo (decide (x < 0)) x.natAbs 1 = (x : Rat) := by
  rw [quo_one]
  congr 1
  unfold sgn
  by_cases h : x < 0
  · rw [decide_eq_true h, if_pos rfl]; omega
  · rw [decide_eq_false h, if_neg (by simp)]; omega
theorem sgnT_lenT (b : Bool) (l : List UInt8) : (sgnT b l).length ≤ l.length + 1 := by unfold sgnT; cases b <;> simp
theorem form_quoT (neg : Bool) (n : Nat) (p : Int) : quo (neg && decide (n ≠ 0)) (n * 10 ^ p.toNat) (10 ^ (-p).toNat) = qv neg n p := by
  rw [qv_quo]
  have e : decide (n ≠ 0) = decide (n * 10 ^ p.toNat ≠ 0) := by
    apply decide_eq_decide.2
    have h : 10 ^ p.toNat ≠ 0 := Nat.ne_of_gt (Nat.pow_pos (by omega))
    constructor
    · intro h1 h2; rcases Nat.mul_eq_zero.1 h2 with h3 | h3
      · exact h1 h3
      · exact h h3
    · intro h1 h2; subst h2; simp at h1
  rw [e, quo_zero_sgn]
theorem turn_nog {T : List UInt8} {i j : Nat} (hi : T[i]? = some 46) (hj : T[j]? = some 101) (k : Nat) (c : UInt8) : ¬ FracGood (T.set k c) := by
  intro h
  have hij : i ≠ j := fun e => by rw [e, hj] at hi; cases hi
  by_cases hk : k = i
  · have h1 : (T.set k c)[j]? = some 101 := by rw [List.getElem?_set_ne (by omega)]; exact hj
    have h2 := fracGood_char h 101 (List.mem_of_getElem? h1)
    revert h2; decide
  · have h1 : (T.set k c)[i]? = some 46 := by rw [List.getElem?_set_ne (by omega)]; exact hi
    have h2 := fracGood_char h 46 (List.mem_of_getElem? h1)
    revert h2; decide
theorem turn_lone {T : List UInt8} (h : ∀ x ∈ T, x.toNat < 128) (k : Nat) (c : UInt8) : Lone (T.set k c) := by
  intro i b d hb h128 hd
  by_cases hk : k = i
  · rw [List.getElem?_set_ne (by omega)] at hd
    exact h d (List.mem_of_getElem? hd)
  · rw [List.getElem?_set_ne (by omega)] at hb
    have := h b (List.mem_of_getElem? hb)
    omega
theorem lone_strip {l : List UInt8} (h : Lone l) : Lone (strip l) := by
  rcases l with _ | ⟨c, r⟩
  · exact h
  · show Lone (if c = 45 ∨ c = 43 then r else c :: r)
    split
    · exact h.tail
    · exact h
theorem dig_ascii {x : UInt8} (h : isDig x = true) : x.toNat < 128 := by have := isDig_iff.1 h; omega
/-- the row that a conversion lays, a byte of it turned, read again -/
theorem bytes_turn {P : Program} (w : World) (st bt e : TypeId) (T : List UInt8) (k : Nat) (c : UInt8) (hk : k < T.length) (hs : P.underlying st = some .string) (hd : P.underlying bt = some (.slice e)) (he : P.underlying e = some (.int .u8)) :
    ∃ cp w5 w6, (convert st bt (.string ⟨T.toArray⟩)).run P w = .ok (.slice (some ⟨w.heap.size, 0, none⟩) T.length cp) w5 ∧
      (∃ x, w5.cell? ⟨w.heap.size, k, none⟩ = some (.int .u8 x)) ∧ w5.frozen? ⟨w.heap.size, k, none⟩ = false ∧ w6 = w5.setCell ⟨w.heap.size, k, none⟩ (.int .u8 c.toNat) ∧ Below w.heap.size w w6 ∧
      (∀ w', Below w6.heap.size w6 w' → (convert bt st (.slice (some ⟨w.heap.size, 0, none⟩) T.length cp)).run P w' = .ok (.string ⟨(T.set k c).toArray⟩) w') := by
  have hsz : (⟨T.toArray⟩ : ByteArray).size = T.length := by show T.toArray.size = _; simp
  have h1 := Lib.run_convert_string_bytes (P := P) w st bt e ⟨T.toArray⟩ hs hd he
  rw [hsz] at h1
  have hcell : ∀ j, j < T.length → (Lib.bytesWorld w e ⟨T.toArray⟩).cell? ⟨w.heap.size, j, none⟩ = some (.int .u8 (T.getD j 0).toNat) := fun j hj => Lib.bytesWorld_cell w e ⟨T.toArray⟩ j (by rw [hsz]; exact hj)
  have hnew := Lib.bytesWorld_at_new w e ⟨T.toArray⟩
  have hcs : k < (Lib.bytesCells w e ⟨T.toArray⟩).size := by
    unfold Lib.bytesCells
    rw [Array.size_append]
    have : ((⟨T.toArray⟩ : ByteArray).data.map fun b => Value.int .u8 b.toNat).size = T.length := by simp
    omega
  have hB : Below w.heap.size w (Lib.bytesWorld w e ⟨T.toArray⟩) := Lib.bytesWorld_below _ _ _
  have hlt : w.heap.size < (Lib.bytesWorld w e ⟨T.toArray⟩).heap.size := by rw [Lib.bytesWorld_size]; omega
  refine ⟨_, _, _, h1, ⟨_, hcell k hk⟩, ?_, rfl, ?_, fun w' hw' => ?_⟩
  · simp only [World.frozen?, hnew]
    simp
    omega
  · exact hB.trans ((Only.refl _ _).setCell k _ |>.below (Nat.le_refl _))
  · have hsl : (T.set k c).length = T.length := by simp
    have h2 := run_convert_bytes_back (P := P) w' bt st e ⟨w.heap.size, 0, none⟩ (grownCap w T.length 0 e) (T.set k c) hd he hs (fun j hj => by
      have hj' : j < T.length := by omega
      have hc : ((Lib.bytesWorld w e ⟨T.toArray⟩).setCell ⟨w.heap.size, k, none⟩ (.int .u8 c.toNat)).cell? ⟨w.heap.size, j, none⟩ = some (.int .u8 ((T.set k c)[j].toNat : Int)) := by
        by_cases hjk : k = j
        · subst hjk
          rw [World.cell?_setCell_same _ _ _ (hcell k hj')]
          simp
        · rw [World.cell?_setCell_other _ _ _ _ (by simp [hjk]), hcell j hj']
          congr 3
          rw [List.getElem_set_ne hjk]
          simp [List.getD, hj']
      have := cell_keep hc hw'
      have e : (⟨w.heap.size, 0, none⟩ : Addr).add j = ⟨w.heap.size, j, none⟩ := by
        rcases j with _ | j
        · rfl
        · simp [Addr.add]
      rw [e]; exact this)
    rw [hsl] at h2
    exact h2
theorem qv_fits40 {neg : Bool} {n : Nat} {p : Int} (hn : n < 10 ^ 40) (h1 : -200 ≤ p) (h2 : p ≤ 200) : Fits 30 (qv neg n p) := by
  rw [qv_quo]
  refine fits_quo (Nat.ne_of_gt (Nat.pow_pos (by omega))) (Nat.le_trans (sz_mul _ _) ?_) (Nat.le_trans (pow10_len (by omega)) (by omega))
  have e1 := num40_len hn
  have e2 := pow10_len (p := p.toNat) (by omega)
  omega
end Vic
namespace Go.Proofs.YthephiihcgibjaaGreatDoor
open Go.RowKit Vic

set_option maxRecDepth 100000 in
set_option maxHeartbeats 8000000 in
theorem law_LitTurn (w : World) (ht : TabE w) (l : List UInt8) (e0 at0 : Int) (c0 : Nat) (hl : l.length ≤ 9223372036854775807) (h1 : -9223372036854775808 ≤ e0) (h2 : e0 ≤ 9223372036854775807) (h3 : -9223372036854775808 ≤ at0) (h4 : at0 ≤ 9223372036854775807) (h5 : c0 < 256) :
    Calls Tryz.prog 3 #[.string ⟨l.toArray⟩, .int .i64 e0, .int .i64 at0, .int .u8 c0] w (Keeps (.bool true) w) := by
  obtain ⟨c, rfl⟩ : ∃ c : UInt8, c0 = c.toNat := ⟨UInt8.ofNat c0, by simp; omega⟩
  have CB := Lib.hid (law_begun w ht.tab)
  have CD8 : Hid (∀ wr, Calls Tryz.prog 13 #[.string ⟨l.toArray⟩, .int .i64 8] wr (GivesDigits 8 wr)) := Lib.hid fun wr => law_Digits wr l 8 hl (by omega) (by omega)
  have CD3 : Hid (∀ wr, Calls Tryz.prog 13 #[.string ⟨l.toArray⟩, .int .i64 3] wr (GivesDigits 3 wr)) := Lib.hid fun wr => law_Digits wr l 3 hl (by omega) (by omega)
  have HT := Lib.hid ht
  obtain ⟨ev, hev⟩ : ∃ ev, ev = e0.tmod 99 := ⟨_, rfl⟩
  have hev1 : -98 ≤ ev := by have := Int.lt_tmod_of_pos e0 (show (0 : Int) < 99 by omega); omega
  have hev2 : ev ≤ 98 := by have := Int.tmod_lt_of_pos e0 (show (0 : Int) < 99 by omega); omega
  have hev3 := hev.symm
  have COf : Hid (∀ W, Calls Tryz.prog 14 #[.int .i64 ev] W (Gives (fun v w' => RefQ w' v (decide (ev < 0)) ev.natAbs 1) W)) := Lib.hid fun W => ref_Of W ev (by omega) (by omega)
  obtain ⟨E, hE⟩ : ∃ E, E = sgnT (decide (ev < 0)) (Lib.decDigits ev.natAbs) := ⟨_, rfl⟩
  have hEl : E.length ≤ 4 := by
    have h1 : (Lib.decDigits ev.natAbs).length ≤ 3 := dec_len (k := 2) (by omega)
    have h2 := sgnT_lenT (decide (ev < 0)) (Lib.decDigits ev.natAbs)
    rw [hE]; omega
  have COT : Hid (∀ W v, RefQ W v (decide (ev < 0)) ev.natAbs 1 → Calls Tryz.prog 15 #[v] W (Keeps (.string ⟨E.toArray⟩) W)) := Lib.hid fun W v hv => by
    have h := ref_Q_Text W v _ _ 1 hv (by omega) (Nat.le_trans (tdg_len (k := 1) (by omega)) (by omega)) (by rw [tdg_one]; simp)
    rw [quo_intT, fracText_int] at h
    rw [hE]; exact h
  have hEa : ∀ x ∈ E, x.toNat < 128 := by
    intro x hx
    rw [hE] at hx
    unfold sgnT at hx
    rcases List.mem_append.1 hx with h | h
    · split at h
      · simp at h; rw [h]; decide
      · simp at h
    · exact dig_ascii (dec_isDig _ x h)
  have HEA := Lib.hid hEa
  have hsz : (Tryz.prog.info? 27).map (·.size) = some 3 := by kernel_rfl
  clear ht hl hev hE hEa
  go_enter Tryz.func3, Tryz.ntmps3
  go_wp2_with fail
  refine CB.out.mono ?_
  rintro e w1 ⟨rfl, hb1⟩
  go_wp2_with fail
  refine (CD8.out _).mono ?_
  rintro e w2 ⟨d1, rfl, hcan1, hdl1, hb2⟩
  have B2 := below_seq hb1 hb2
  have c1 : (⟨d1.toArray⟩ ++ ⟨#[46]⟩ : ByteArray) = ⟨(d1 ++ [46]).toArray⟩ := bytes_app _ [46]
  obtain ⟨T1, hT1⟩ : ∃ T1, T1 = d1 ++ [46] := ⟨_, rfl⟩
  rw [← hT1] at c1
  have c1b : (d1 ++ [46]).toArray = T1.toArray := by rw [hT1]
  have hT1l : T1.length ≤ 9 := by rw [hT1]; simp; omega
  clear CB CD8 hb1 hb2
  go_wp2_with fail
  refine (CD3.out _).mono ?_
  rintro e w3 ⟨d2, rfl, hcan2, hdl2, hb3⟩
  have B3 := below_seq B2 hb3
  have c2 : (⟨T1.toArray⟩ ++ ⟨d2.toArray⟩ : ByteArray) = ⟨(T1 ++ d2).toArray⟩ := bytes_app _ _
  obtain ⟨T2, hT2⟩ : ∃ T2, T2 = T1 ++ d2 := ⟨_, rfl⟩
  rw [← hT2] at c2
  have hT2l : T2.length ≤ 12 := by rw [hT2]; simp; omega
  have c3 : (⟨T2.toArray⟩ ++ ⟨#[101]⟩ : ByteArray) = ⟨(T2 ++ [101]).toArray⟩ := bytes_app _ [101]
  obtain ⟨T3, hT3⟩ : ∃ T3, T3 = T2 ++ [101] := ⟨_, rfl⟩
  rw [← hT3] at c3
  have c3b : (T2 ++ [101]).toArray = T3.toArray := by rw [hT3]
  have hT3l : T3.length ≤ 13 := by rw [hT3]; simp; omega
  have c4 : (⟨T3.toArray⟩ ++ ⟨E.toArray⟩ : ByteArray) = ⟨(T3 ++ E).toArray⟩ := bytes_app _ _
  obtain ⟨T, hT⟩ : ∃ T, T = T3 ++ E := ⟨_, rfl⟩
  rw [← hT] at c4
  have hTl : T.length ≤ 17 := by rw [hT]; simp; omega
  have hT0 : 0 < T.length := by rw [hT, hT3]; simp; omega
  have hTa : ∀ x ∈ T, x.toNat < 128 := by
    intro x hx
    rw [hT, hT3, hT2, hT1] at hx
    simp only [List.mem_append, List.mem_singleton] at hx
    rcases hx with (((h | h) | h) | h) | h
    · exact dig_ascii (hcan1.2.1 x h)
    · rw [h]; decide
    · exact dig_ascii (hcan2.2.1 x h)
    · rw [h]; decide
    · exact HEA.out x h
  have hTi : T[d1.length]? = some 46 := by rw [hT, hT3, hT2, hT1]; simp
  have hTj : T[T2.length]? = some 101 := by rw [hT, hT3]; simp
  have HNOG : Hid (∀ k, ¬ FracGood (T.set k c)) := Lib.hid fun k => turn_nog hTi hTj k c
  have HLONE : Hid (∀ k, Lone (T.set k c)) := Lib.hid fun k => turn_lone hTa k c
  have HCV : Hid (∀ (k : Nat) (W : World), k < T.length → ∃ cp w5 w6, (convert 9 30 (.string ⟨T.toArray⟩)).run Tryz.prog W = .ok (.slice (some ⟨W.heap.size, 0, none⟩) T.length cp) w5 ∧
      (∃ x, w5.cell? ⟨W.heap.size, k, none⟩ = some (.int .u8 x)) ∧ w5.frozen? ⟨W.heap.size, k, none⟩ = false ∧ w6 = w5.setCell ⟨W.heap.size, k, none⟩ (.int .u8 c.toNat) ∧ Below W.heap.size W w6 ∧
      (∀ w', Below w6.heap.size w6 w' → (convert 30 9 (.slice (some ⟨W.heap.size, 0, none⟩) T.length cp)).run Tryz.prog w' = .ok (.string ⟨(T.set k c).toArray⟩) w')) :=
    Lib.hid fun k W hk => bytes_turn W 9 30 5 T k c hk Tryz.underlying9 Tryz.underlying30 Tryz.underlying5
  clear hT hT3 hT2 hT1 hTa hTi hTj hcan1 hcan2 HEA CD3 B2 hb3
  go_wp2_with fail
  refine (COf.out _).mono ?_
  rintro e w4 ⟨x4, rfl, hx4, hb4⟩
  have C4 := Lib.hid (COT.out _ _ hx4)
  have B4 := below_seq B3 hb4
  clear COf COT hx4 B3 hb4
  go_wp2_with fail
  refine C4.out.mono ?_
  rintro e w5 ⟨rfl, hb5⟩
  have B5 := below_seq B4 hb5
  clear C4 B4 hb5
  have hlen0 : (T.length : Int) ≠ 0 := by omega
  have hcase : (at0 < 0 ∧ ∃ k : Nat, k = 0 ∧ k < T.length) ∨ (¬ at0 < 0 ∧ ∃ k : Nat, at0.tmod (T.length : Int) = (k : Int) ∧ k < T.length) := by
    by_cases h : at0 < 0
    · exact .inl ⟨h, 0, rfl, hT0⟩
    · right
      refine ⟨h, (at0.tmod (T.length : Int)).toNat, ?_, ?_⟩
      · have := Int.tmod_nonneg (a := at0) (T.length : Int) (by omega); omega
      · have h1 := Int.tmod_nonneg (a := at0) (T.length : Int) (by omega)
        have h2 := Int.tmod_lt_of_pos at0 (show (0 : Int) < (T.length : Int) by omega)
        omega
  have HALL : Hid (∀ k P, P = T.set k c → P.length = T.length ∧ ¬ FracGood P ∧ Lone P) := Lib.hid fun k P h => by
    rw [h]; exact ⟨by simp, HNOG.out k, HLONE.out k⟩
  clear HNOG HLONE
  rcases hcase with ⟨hat, k, hk0, hkl⟩ | ⟨hat, k, hk0, hkl⟩
  case' inl => subst hk0; obtain ⟨P, hP⟩ : ∃ P, P = T.set 0 c := ⟨_, rfl⟩
  case' inr => obtain ⟨P, hP⟩ : ∃ P, P = T.set k c := ⟨_, rfl⟩
  all_goals
    obtain ⟨cp, wa, wb, hcv, ⟨xo, hco⟩, hfr, hwb, hbb, hback⟩ := HCV.out _ w5 hkl
    rw [← hP] at hback
    obtain ⟨hPl, hPn, hPo⟩ := HALL.out _ P hP
    have hback1 := hback wb (Below.refl _ _)
    rw [hwb] at hback1
    have HBACK := Lib.hid hback
    have HWB := Lib.hid hwb
    have hP40 : P.length ≤ 40 := by omega
    have CLG : Hid (∀ W, Below w5.heap.size w5 W → Calls Tryz.prog 16 #[.string ⟨P.toArray⟩] W (LitGot P W)) := Lib.hid fun W h => lit_Get_gen W (HT.out.keep (below_seq B5 h)) P hP40 hPn (fun wr => strings_IndexAny_eE wr (strip P) (by have := strip_len P; omega) (lone_strip hPo))
    have CRL : Hid (∀ W, Calls Tryz.prog 17 #[.string ⟨P.toArray⟩] W (RefLitGot P W)) := Lib.hid fun W => ref_Lit_gen W P hP40 hPn
    have hbody := body_eq (strip P)
    have HBODY := Lib.hid hbody
    have HBB := Lib.hid hbb
    have hkl' := Int.ofNat_lt.2 hkl
    have hP17 : (P.length : Int) ≤ 17 := by omega
    have h255 : (c.toNat : Int) ≤ 255 := by have := c.toNat_lt; omega
    clear hback hwb hP HCV HALL hPn hPo hbody hbb hPl hP40
    go_wp2_with fail
    rw [← HWB.out]
    go_at_call 16
    refine (CLG.out _ HBB.out).mono ?_
    rintro e w6 (⟨hno, rfl, hb6⟩ | ⟨n, p, hO, hn, hp1, hp2, x6, rfl, hx6, hb6⟩)
    · have hback2 := HBACK.out w6 hb6
      have B6 := below_seq B5 (below_seq HBB.out hb6)
      have HNO := Lib.hid hno
      clear hback1 HBACK CLG hno hcv hco hfr
      go_wp2_with fail
      go_at_call 17
      refine (CRL.out _).mono ?_
      rintro e w7 (⟨hno2, g, rfl, hb7⟩ | ⟨n, p, hO, _⟩)
      · have B7 := below_seq B6 hb7
        have HB7 := Lib.hid B7
        clear CRL hback2 hno2
        go_wp2_with fail
        obtain ⟨w8, hw8⟩ : ∃ X, X = w7.alloc (.cells #[.bool false, .slice none 0 0, .slice (some ⟨g, 0, none⟩) 1 1] 27) := ⟨_, rfl⟩
        rw [← hw8]
        have h78 : Below w7.heap.size w7 w8 := by rw [hw8]; exact (Below.refl _ _).alloc (Nat.le_refl _) _
        clear hw8
        refine wp_region_any (by kernel_rfl) ?_
        change wpAny _ _ _ _ _ _ _ (World.drew _)
        obtain ⟨W0, hW0⟩ : ∃ X, X = (w8).drew := ⟨_, rfl⟩
        rw [← hW0]
        have z0 : Below (w8).heap.size (w8) W0 := by rw [hW0]; exact Below.drewN_ (Below.refl _ _) 1
        clear hW0
        refine wpAny_take (i := 0) (v := .bool false) rfl (by kernel_rfl) (by kernel_rfl) (by kernel_rfl) (fun _ _ _ h => h) (Or.inl ⟨by kernel_rfl, ?_⟩) ?_
        · intro w; go_simp <;> first | omega | (intro hh; exfalso; omega) | rfl
        refine wpAny_take (i := 1) (v := .bool false) rfl (by kernel_rfl) (by kernel_rfl) (by kernel_rfl) (fun _ _ _ h => h) (Or.inl ⟨by kernel_rfl, ?_⟩) ?_
        · intro w; go_simp <;> first | omega | (intro hh; exfalso; omega) | rfl
        refine wpAny_take (i := 2) (v := .bool true) rfl (by kernel_rfl) (by kernel_rfl) (by kernel_rfl) (fun _ _ _ h => h) (Or.inl ⟨by kernel_rfl, ?_⟩) ?_
        · intro w; go_simp <;> first | omega | (intro hh; exfalso; omega) | rfl
        refine wpAny_take (i := 3) (v := .bool true) rfl (by kernel_rfl) (by kernel_rfl) (by kernel_rfl) (fun _ _ _ h => h) (Or.inl ⟨by kernel_rfl, ?_⟩) ?_
        · intro w; go_simp <;> first | omega | (intro hh; exfalso; omega) | rfl
        refine wpAny_take (i := 4) (v := .bool false) rfl (by kernel_rfl) (by kernel_rfl) (by kernel_rfl) (fun _ _ _ h => h) (Or.inl ⟨by kernel_rfl, ?_⟩) ?_
        · intro w; go_simp <;> first | omega | (intro hh; exfalso; omega) | rfl
        refine wpAny_take (i := 5) (v := .bool false) rfl (by kernel_rfl) (by kernel_rfl) (by kernel_rfl) (fun _ _ _ h => h) (Or.inl ⟨by kernel_rfl, ?_⟩) ?_
        · intro w; go_simp <;> first | omega | (intro hh; exfalso; omega) | rfl
        refine wpAny_take (i := 6) (v := undef) rfl (by kernel_rfl) (by kernel_rfl) (by kernel_rfl) (fun _ _ _ h => h) (Or.inr ⟨by kernel_rfl, rfl⟩) ?_
        refine wpAny_take (i := 7) (v := undef) rfl (by kernel_rfl) (by kernel_rfl) (by kernel_rfl) (fun _ _ _ h => h) (Or.inr ⟨by kernel_rfl, rfl⟩) ?_
        refine wpAny_take (i := 8) (v := undef) rfl (by kernel_rfl) (by kernel_rfl) (by kernel_rfl) (fun _ _ _ h => h) (Or.inr ⟨by kernel_rfl, rfl⟩) ?_
        refine wpAny_take (i := 9) (v := undef) rfl (by kernel_rfl) (by kernel_rfl) (by kernel_rfl) (fun _ _ _ h => h) (Or.inr ⟨by kernel_rfl, rfl⟩) ?_
        refine wpAny_take (i := 10) (v := undef) rfl (by kernel_rfl) (by kernel_rfl) (by kernel_rfl) (fun _ _ _ h => h) (Or.inr ⟨by kernel_rfl, rfl⟩) ?_
        refine wpAny_take (i := 11) (v := .bool false) rfl (by kernel_rfl) (by kernel_rfl) (by kernel_rfl) (fun _ _ _ h => h) (Or.inl ⟨by kernel_rfl, ?_⟩) ?_
        · intro w; go_simp <;> first | omega | (intro hh; exfalso; omega) | rfl
        refine wpAny_take (i := 12) (v := .bool false) rfl (by kernel_rfl) (by kernel_rfl) (by kernel_rfl) (fun _ _ _ h => h) (Or.inl ⟨by kernel_rfl, ?_⟩) ?_
        · intro w; go_simp <;> first | omega | (intro hh; exfalso; omega) | rfl
        refine wpAny_take (i := 13) (v := .bool false) rfl (by kernel_rfl) (by kernel_rfl) (by kernel_rfl) (fun _ _ _ h => h) (Or.inl ⟨by kernel_rfl, ?_⟩) ?_
        · intro w; go_simp <;> first | omega | (intro hh; exfalso; omega) | rfl
        refine wpAny_take (i := 14) (v := .bool true) rfl (by kernel_rfl) (by kernel_rfl) (by kernel_rfl) (fun _ _ _ h => h) (Or.inl ⟨by kernel_rfl, ?_⟩) ?_
        · intro w; go_simp <;> first | omega | (intro hh; exfalso; omega) | rfl
        refine wpAny_take (i := 15) (v := .bool true) rfl (by kernel_rfl) (by kernel_rfl) (by kernel_rfl) (fun _ _ _ h => h) (Or.inl ⟨by kernel_rfl, ?_⟩) ?_
        · intro w; go_simp <;> first | omega | (intro hh; exfalso; omega) | rfl
        refine wpAny_take (i := 16) (v := .pointer none) rfl (by kernel_rfl) (by kernel_rfl) (by kernel_rfl) (fun _ _ _ h => h) (Or.inl ⟨by kernel_rfl, ?_⟩) ?_
        · intro w; go_simp <;> first | omega | (intro hh; exfalso; omega) | rfl
        refine wpAny_take (i := 17) (v := .bool true) rfl (by kernel_rfl) (by kernel_rfl) (by kernel_rfl) (fun _ _ _ h => h) (Or.inl ⟨by kernel_rfl, ?_⟩) ?_
        · intro w; go_simp <;> first | omega | (intro hh; exfalso; omega) | rfl
        refine wpAny_take (i := 18) (v := .bool true) rfl (by kernel_rfl) (by kernel_rfl) (by kernel_rfl) (fun _ _ _ h => h) (Or.inl ⟨by kernel_rfl, ?_⟩) ?_
        · intro w; go_simp <;> first | omega | (intro hh; exfalso; omega) | rfl
        refine wpAny_take (i := 19) (v := .bool true) rfl (by kernel_rfl) (by kernel_rfl) (by kernel_rfl) (fun _ _ _ h => h) (Or.inl ⟨by kernel_rfl, ?_⟩) ?_
        · intro w; go_simp <;> first | omega | (intro hh; exfalso; omega) | rfl
        refine wpAny_take (i := 20) (v := .bool true) rfl (by kernel_rfl) (by kernel_rfl) (by kernel_rfl) (fun _ _ _ h => h) (Or.inl ⟨by kernel_rfl, ?_⟩) ?_
        · intro w; go_simp <;> first | omega | (intro hh; exfalso; omega) | rfl
        refine wpAny_take (i := 21) (v := .bool true) rfl (by kernel_rfl) (by kernel_rfl) (by kernel_rfl) (fun _ _ _ h => h) (Or.inl ⟨by kernel_rfl, ?_⟩) ?_
        · intro w; go_simp <;> first | omega | (intro hh; exfalso; omega) | rfl
        refine wpAny_done (by kernel_rfl) ?_ _
        go_wp2_with fail
        go_ret
        exact ⟨by kernel_rfl, below_seq HB7.out (below_seq h78 z0)⟩
      · exfalso
        have h1 := HNO.out
        rw [HBODY.out, hO] at h1
        cases h1
    · have hback2 := HBACK.out w6 hb6
      have B6 := below_seq B5 (below_seq HBB.out hb6)
      have HX6 := Lib.hid hx6
      have HO := Lib.hid hO
      obtain ⟨bx, hxe⟩ : ∃ bx, x6 = .pointer (some ⟨bx, 0, none⟩) := by
        obtain ⟨bz, _, _, h, _⟩ := hx6
        exact ⟨_, h⟩
      subst hxe
      have HN := Lib.hid hn
      clear hback1 HBACK CLG hcv hco hfr hx6 hO hn
      go_wp2_with fail
      go_at_call 17
      refine (CRL.out _).mono ?_
      rintro e w7 (⟨hno2, g, rfl, hb7⟩ | ⟨n2, p2, hO2, hn2, _, _, v7, rfl, hv7, hb7⟩)
      · exfalso
        have h1 := HO.out
        rw [HBODY.out, hno2] at h1
        cases h1
      · have hnp := HO.out.symm.trans (HBODY.out.trans hO2)
        injection hnp with hnp
        injection hnp with e1 e2
        subst e1
        subst e2
        have B7 := below_seq B6 hb7
        obtain ⟨Q, hQ⟩ : ∃ Q, Q = qv (neg0 P) n p := ⟨_, rfl⟩
        have hfit : Fits 30 Q := by rw [hQ]; exact qv_fits40 HN.out (by omega) (by omega)
        obtain ⟨St, hSt⟩ : ∃ St, St = fracText Q := ⟨_, rfl⟩
        obtain ⟨sb, hsb⟩ : ∃ sb, sb = (neg0 P && decide (n ≠ 0)) := ⟨_, rfl⟩
        obtain ⟨N1, hN1⟩ : ∃ N1, N1 = n * 10 ^ p.toNat := ⟨_, rfl⟩
        obtain ⟨D1, hD1⟩ : ∃ D1, D1 = 10 ^ (-p).toNat := ⟨_, rfl⟩
        have hD0 : D1 ≠ 0 := by rw [hD1]; exact Nat.ne_of_gt (Nat.pow_pos (by omega))
        have hN1l : (tdg N1).length ≤ 10000 := by rw [hN1]; exact Nat.le_trans (tdg_p40 HN.out (by omega)) (by omega)
        have hD1l : (tdg D1).length ≤ 10000 := by
          have h := tdg_p40 (n := 1) (q := (-p).toNat) (by omega) (by omega)
          rw [Nat.one_mul, ← hD1] at h
          exact Nat.le_trans h (by omega)
        have hquo : quo sb N1 D1 = Q := by rw [hsb, hN1, hD1, hQ]; exact form_quoT _ n p
        rw [← hsb, ← hN1, ← hD1] at hv7
        rw [← hQ] at HX6
        obtain ⟨A1, q1, A2, q2, rfl, _, _, _⟩ := hv7.open_
        obtain ⟨m1, hm1⟩ : ∃ m1, m1 = (tdg N1).length := ⟨_, rfl⟩
        obtain ⟨m2, hm2⟩ : ∃ m2, m2 = (tdg D1).length := ⟨_, rfl⟩
        rw [← hm1, ← hm2] at hv7 ⊢
        obtain ⟨w8, hw8⟩ : ∃ w8, w8 = w7.alloc (.cells #[.bool sb, .slice A1 m1 q1, .slice A2 m2 q2] 27) := ⟨_, rfl⟩
        have h78 : Below w7.heap.size w7 w8 := by rw [hw8]; exact (Below.refl _ _).alloc (Nat.le_refl _) _
        have HR8 := Lib.hid (show Row w8 w7.heap.size 27 #[.bool sb, .slice A1 m1 q1, .slice A2 m2 q2] by rw [hw8]; exact Row.new _ _ _)
        have z8 := below_seq B7 h78
        have HX8 := Lib.hid ((HX6.out.keep hb7).keep h78)
        have HQ8 := Lib.hid (hv7.keep h78)
        have HW8 := Lib.hid hw8
        have TA : Hid (∀ W, Below w8.heap.size w8 W → Calls Tryz.prog 18 #[.pointer (some ⟨bx, 0, none⟩)] W (fun e w' => e = .returned (.string ⟨St.toArray⟩) ∧ Below w8.heap.size w8 w')) := Lib.hid fun W h => by
          rw [hSt]
          refine (frac_Text W _ Q (HX8.out.keep h).at_ (hfit.mono (by omega)) (HT.out.tab.keep (below_seq z8 h))).mono ?_
          rintro e w' ⟨rfl, hb⟩
          exact ⟨rfl, below_seq h hb⟩
        have TB : Hid (∀ W, Below w8.heap.size w8 W → Calls Tryz.prog 15 #[.agg #[.bool sb, .slice A1 m1 q1, .slice A2 m2 q2]] W (fun e w' => e = .returned (.string ⟨St.toArray⟩) ∧ Below w8.heap.size w8 w')) := Lib.hid fun W h => by
          have h1 := ref_Q_Text W _ sb N1 D1 (HQ8.out.keep h) hD0 hN1l hD1l
          rw [hquo, ← hSt] at h1
          refine h1.mono ?_
          rintro e w' ⟨rfl, hb⟩
          exact ⟨rfl, below_seq h hb⟩
        have KR : Hid (∀ W, Below w8.heap.size w8 W → Row W w7.heap.size 27 #[.bool sb, .slice A1 m1 q1, .slice A2 m2 q2]) := Lib.hid fun W h => Row.keep HR8.out h
        have KZ : Hid (∀ W, Below w8.heap.size w8 W → Below w.heap.size w W) := Lib.hid fun W h => below_seq z8 h
        have hbe : (St == St) = true := beq_self_eq_true St
        clear hback2 CRL hQ hfit hSt hsb hN1 hD1 hD0 hN1l hD1l hquo hv7 hm1 hm2 hw8 h78 HX6 HX8 HQ8 HR8 HO HBODY hO2 hn2 HN
        go_wp2_with fail
        rw [← HW8.out]
        refine wp_region_any (by kernel_rfl) ?_
        change wpAny _ _ _ _ _ _ _ (World.drew _)
        obtain ⟨W0, hW0⟩ : ∃ X, X = (w8).drew := ⟨_, rfl⟩
        rw [← hW0]
        have z0 : Below (w8).heap.size (w8) W0 := by rw [hW0]; exact Below.drewN_ (Below.refl _ _) 1
        clear hW0
        refine wpAny_take (i := 0) (v := .bool true) rfl (by kernel_rfl) (by kernel_rfl) (by kernel_rfl) (fun _ _ _ h => h) (Or.inl ⟨by kernel_rfl, ?_⟩) ?_
        · intro w; go_simp <;> first | omega | (intro hh; exfalso; omega) | rfl
        refine wpAny_take (i := 1) (v := .bool true) rfl (by kernel_rfl) (by kernel_rfl) (by kernel_rfl) (fun _ _ _ h => h) (Or.inl ⟨by kernel_rfl, ?_⟩) ?_
        · intro w; go_simp <;> first | omega | (intro hh; exfalso; omega) | rfl
        refine wpAny_take (i := 2) (v := .bool true) rfl (by kernel_rfl) (by kernel_rfl) (by kernel_rfl) (fun _ _ _ h => h) (Or.inl ⟨by kernel_rfl, ?_⟩) ?_
        · intro w; go_simp <;> first | omega | (intro hh; exfalso; omega) | rfl
        refine wpAny_take (i := 3) (v := .bool true) rfl (by kernel_rfl) (by kernel_rfl) (by kernel_rfl) (fun _ _ _ h => h) (Or.inl ⟨by kernel_rfl, ?_⟩) ?_
        · intro w; go_simp <;> first | omega | (intro hh; exfalso; omega) | rfl
        refine wpAny_take (i := 4) (v := .bool true) rfl (by kernel_rfl) (by kernel_rfl) (by kernel_rfl) (fun _ _ _ h => h) (Or.inl ⟨by kernel_rfl, ?_⟩) ?_
        · intro w; go_simp <;> first | omega | (intro hh; exfalso; omega) | rfl
        refine wpAny_take (i := 5) (v := .bool true) rfl (by kernel_rfl) (by kernel_rfl) (by kernel_rfl) (fun _ _ _ h => h) (Or.inl ⟨by kernel_rfl, ?_⟩) ?_
        · intro w; go_simp <;> first | omega | (intro hh; exfalso; omega) | rfl
        refine wpAny_take (i := 6) (v := .pointer (some ⟨bx, 0, none⟩)) rfl (by kernel_rfl) (by kernel_rfl) (by kernel_rfl) (fun _ _ _ h => h) (Or.inl ⟨by kernel_rfl, ?_⟩) ?_
        · intro w; go_simp <;> first | omega | (intro hh; exfalso; omega) | rfl
        refine wpAny_ready (rs := [7, 8]) (by kernel_rfl) (by simp) ?_
        refine AllReady.cons rfl (fun K hK => ?_) (AllReady.cons rfl (fun K hK => ?_) AllReady.nil)
        · go_simp
          go_at_call 18
          refine (TA.out _ z0).mono ?_
          rintro e W1 ⟨rfl, z1⟩
          refine hK _ _ ?_
          clear hK K
          refine wpAny_ready (rs := [8]) (by kernel_rfl) (by simp) ?_
          refine AllReady.cons rfl (fun K hK => ?_) AllReady.nil
          have k0 : W1.cell? ⟨w7.heap.size, 0, none⟩ = some (.bool sb) := (KR.out W1 z1).cell 0
          have k1 : W1.cell? ⟨w7.heap.size, 1, none⟩ = some (.slice A1 m1 q1) := (KR.out W1 z1).cell 1
          have k2 : W1.cell? ⟨w7.heap.size, 2, none⟩ = some (.slice A2 m2 q2) := (KR.out W1 z1).cell 2
          go_simp
          refine hK _ _ ?_
          clear hK K
          refine wpAny_ready (rs := [9]) (by kernel_rfl) (by simp) ?_
          refine AllReady.cons rfl (fun K hK => ?_) AllReady.nil
          go_simp
          go_at_call 15
          refine (TB.out _ z1).mono ?_
          rintro e W2 ⟨rfl, z2⟩
          refine hK _ _ ?_
          clear hK K
          refine wpAny_take (i := 10) (v := .bool true) rfl (by kernel_rfl) (by kernel_rfl) (by kernel_rfl) (fun _ _ _ h => h) (Or.inl ⟨by kernel_rfl, ?_⟩) ?_
          · intro w; go_simp <;> first | omega | (intro hh; exfalso; omega) | rfl
          refine wpAny_take (i := 11) (v := .bool true) rfl (by kernel_rfl) (by kernel_rfl) (by kernel_rfl) (fun _ _ _ h => h) (Or.inl ⟨by kernel_rfl, ?_⟩) ?_
          · intro w; go_simp <;> first | omega | (intro hh; exfalso; omega) | rfl
          refine wpAny_take (i := 12) (v := .bool true) rfl (by kernel_rfl) (by kernel_rfl) (by kernel_rfl) (fun _ _ _ h => h) (Or.inl ⟨by kernel_rfl, ?_⟩) ?_
          · intro w; go_simp <;> first | omega | (intro hh; exfalso; omega) | rfl
          refine wpAny_take (i := 13) (v := undef) rfl (by kernel_rfl) (by kernel_rfl) (by kernel_rfl) (fun _ _ _ h => h) (Or.inr ⟨by kernel_rfl, rfl⟩) ?_
          refine wpAny_take (i := 14) (v := undef) rfl (by kernel_rfl) (by kernel_rfl) (by kernel_rfl) (fun _ _ _ h => h) (Or.inr ⟨by kernel_rfl, rfl⟩) ?_
          refine wpAny_take (i := 15) (v := undef) rfl (by kernel_rfl) (by kernel_rfl) (by kernel_rfl) (fun _ _ _ h => h) (Or.inr ⟨by kernel_rfl, rfl⟩) ?_
          refine wpAny_take (i := 16) (v := undef) rfl (by kernel_rfl) (by kernel_rfl) (by kernel_rfl) (fun _ _ _ h => h) (Or.inr ⟨by kernel_rfl, rfl⟩) ?_
          refine wpAny_take (i := 17) (v := undef) rfl (by kernel_rfl) (by kernel_rfl) (by kernel_rfl) (fun _ _ _ h => h) (Or.inr ⟨by kernel_rfl, rfl⟩) ?_
          refine wpAny_take (i := 18) (v := undef) rfl (by kernel_rfl) (by kernel_rfl) (by kernel_rfl) (fun _ _ _ h => h) (Or.inr ⟨by kernel_rfl, rfl⟩) ?_
          refine wpAny_take (i := 19) (v := .bool true) rfl (by kernel_rfl) (by kernel_rfl) (by kernel_rfl) (fun _ _ _ h => h) (Or.inl ⟨by kernel_rfl, ?_⟩) ?_
          · intro w; go_simp <;> first | omega | (intro hh; exfalso; omega) | rfl
          refine wpAny_take (i := 20) (v := .bool true) rfl (by kernel_rfl) (by kernel_rfl) (by kernel_rfl) (fun _ _ _ h => h) (Or.inl ⟨by kernel_rfl, ?_⟩) ?_
          · intro w; go_simp <;> first | omega | (intro hh; exfalso; omega) | rfl
          refine wpAny_take (i := 21) (v := .bool true) rfl (by kernel_rfl) (by kernel_rfl) (by kernel_rfl) (fun _ _ _ h => h) (Or.inl ⟨by kernel_rfl, ?_⟩) ?_
          · intro w; go_simp <;> first | omega | (intro hh; exfalso; omega) | rfl
          refine wpAny_done (by kernel_rfl) ?_ _
          go_wp2_with fail
          go_ret
          exact ⟨by kernel_rfl, KZ.out _ z2⟩
        · have k0 : W0.cell? ⟨w7.heap.size, 0, none⟩ = some (.bool sb) := (KR.out W0 z0).cell 0
          have k1 : W0.cell? ⟨w7.heap.size, 1, none⟩ = some (.slice A1 m1 q1) := (KR.out W0 z0).cell 1
          have k2 : W0.cell? ⟨w7.heap.size, 2, none⟩ = some (.slice A2 m2 q2) := (KR.out W0 z0).cell 2
          go_simp
          refine hK _ _ ?_
          clear hK K
          refine wpAny_ready (rs := [7]) (by kernel_rfl) (by simp) ?_
          refine AllReady.cons rfl (fun K hK => ?_) AllReady.nil
          go_simp
          go_at_call 18
          refine (TA.out _ z0).mono ?_
          rintro e W3 ⟨rfl, z3⟩
          refine hK _ _ ?_
          clear hK K
          refine wpAny_ready (rs := [9]) (by kernel_rfl) (by simp) ?_
          refine AllReady.cons rfl (fun K hK => ?_) AllReady.nil
          go_simp
          go_at_call 15
          refine (TB.out _ z3).mono ?_
          rintro e W4 ⟨rfl, z4⟩
          refine hK _ _ ?_
          clear hK K
          refine wpAny_take (i := 10) (v := .bool true) rfl (by kernel_rfl) (by kernel_rfl) (by kernel_rfl) (fun _ _ _ h => h) (Or.inl ⟨by kernel_rfl, ?_⟩) ?_
          · intro w; go_simp <;> first | omega | (intro hh; exfalso; omega) | rfl
          refine wpAny_take (i := 11) (v := .bool true) rfl (by kernel_rfl) (by kernel_rfl) (by kernel_rfl) (fun _ _ _ h => h) (Or.inl ⟨by kernel_rfl, ?_⟩) ?_
          · intro w; go_simp <;> first | omega | (intro hh; exfalso; omega) | rfl
          refine wpAny_take (i := 12) (v := .bool true) rfl (by kernel_rfl) (by kernel_rfl) (by kernel_rfl) (fun _ _ _ h => h) (Or.inl ⟨by kernel_rfl, ?_⟩) ?_
          · intro w; go_simp <;> first | omega | (intro hh; exfalso; omega) | rfl
          refine wpAny_take (i := 13) (v := undef) rfl (by kernel_rfl) (by kernel_rfl) (by kernel_rfl) (fun _ _ _ h => h) (Or.inr ⟨by kernel_rfl, rfl⟩) ?_
          refine wpAny_take (i := 14) (v := undef) rfl (by kernel_rfl) (by kernel_rfl) (by kernel_rfl) (fun _ _ _ h => h) (Or.inr ⟨by kernel_rfl, rfl⟩) ?_
          refine wpAny_take (i := 15) (v := undef) rfl (by kernel_rfl) (by kernel_rfl) (by kernel_rfl) (fun _ _ _ h => h) (Or.inr ⟨by kernel_rfl, rfl⟩) ?_
          refine wpAny_take (i := 16) (v := undef) rfl (by kernel_rfl) (by kernel_rfl) (by kernel_rfl) (fun _ _ _ h => h) (Or.inr ⟨by kernel_rfl, rfl⟩) ?_
          refine wpAny_take (i := 17) (v := undef) rfl (by kernel_rfl) (by kernel_rfl) (by kernel_rfl) (fun _ _ _ h => h) (Or.inr ⟨by kernel_rfl, rfl⟩) ?_
          refine wpAny_take (i := 18) (v := undef) rfl (by kernel_rfl) (by kernel_rfl) (by kernel_rfl) (fun _ _ _ h => h) (Or.inr ⟨by kernel_rfl, rfl⟩) ?_
          refine wpAny_take (i := 19) (v := .bool true) rfl (by kernel_rfl) (by kernel_rfl) (by kernel_rfl) (fun _ _ _ h => h) (Or.inl ⟨by kernel_rfl, ?_⟩) ?_
          · intro w; go_simp <;> first | omega | (intro hh; exfalso; omega) | rfl
          refine wpAny_take (i := 20) (v := .bool true) rfl (by kernel_rfl) (by kernel_rfl) (by kernel_rfl) (fun _ _ _ h => h) (Or.inl ⟨by kernel_rfl, ?_⟩) ?_
          · intro w; go_simp <;> first | omega | (intro hh; exfalso; omega) | rfl
          refine wpAny_take (i := 21) (v := .bool true) rfl (by kernel_rfl) (by kernel_rfl) (by kernel_rfl) (fun _ _ _ h => h) (Or.inl ⟨by kernel_rfl, ?_⟩) ?_
          · intro w; go_simp <;> first | omega | (intro hh; exfalso; omega) | rfl
          refine wpAny_done (by kernel_rfl) ?_ _
          go_wp2_with fail
          go_ret
          exact ⟨by kernel_rfl, KZ.out _ z4⟩
end Go.Proofs.YthephiihcgibjaaGreatDoor
