/- Package lit: what stands behind an e, whatever it is. -/
import Derived.Test.YthephiihcgibjaaGreatDoorJTurnLaw
import Derived.Test.YthephiihcgibjaaGreatDoorShelf
import Derived.Test.YthephiihcgibjaaGreatDoorJLitC
set_option linter.unusedVariables false
set_option linter.unusedSimpArgs false
namespace Vic
open Go Go.RowKit
theorem parse10_ok (l : List UInt8) (h : ∀ c ∈ l, isDig c = true) (acc j : Nat) (ha : acc < 10 ^ j) (hj : l.length + j ≤ 9) : Lib.parseUint10 acc l = .ok (numOf acc l) := by
  induction l generalizing acc j with
  | nil => rfl
  | cons c r ih =>
    have h1 := isDig_iff.1 (h c (by simp))
    rw [List.length_cons] at hj
    have h2 : (10 : Nat) ^ (j + 1) ≤ 10 ^ 9 := Nat.pow_le_pow_right (by omega) (by omega)
    have h4 : (10 : Nat) ^ (j + 1) = 10 ^ j * 10 := Nat.pow_succ _ _
    have h3 : acc * 10 + (c.toNat - 48) < 10 ^ (j + 1) := by omega
    rw [Lib.parseUint10, if_pos h1, if_neg (by omega), if_neg (by omega)]
    exact ih (fun x hx => h x (by simp [hx])) _ (j + 1) h3 (by omega)
theorem atoi_digs {t : List UInt8} (h0 : t ≠ []) (hl : t.length ≤ 3) (h : ∀ c ∈ t, isDig c = true) : Lib.atoiAll t = .ok (numOf 0 t : Int) := by
  rcases t with _ | ⟨c, r⟩
  · exact absurd rfl h0
  · have hc := isDig_iff.1 (h c List.mem_cons_self)
    have h1 : Lib.parseUint10 0 (c :: r) = .ok (numOf 0 (c :: r)) := parse10_ok _ h 0 0 (by simp) (by simp at hl ⊢; omega)
    have hlt : numOf 0 (c :: r) < 10 ^ 3 := Nat.lt_of_lt_of_le (numOf_lt _ h) (Nat.pow_le_pow_right (by omega) hl)
    have e1 : ¬ (c.toNat = 43 ∨ c.toNat = 45) := by omega
    have e2 : ¬ c.toNat = 45 := by omega
    have h2 : Lib.parseMag (c :: r) = .ok (numOf 0 (c :: r)) := by
      rw [Lib.parseMag, if_neg (by simp), h1]
    simp only [Lib.atoiAll, if_neg e1, h2]
    rw [if_neg (by omega), if_neg (fun h => e2 h.1), if_neg e2]
def AtoiGot (t : List UInt8) (w : World) (e : Ending) (w' : World) : Prop :=
  (∃ v, Lib.atoiAll t = .ok v ∧ e = .returned (.tuple #[.int .i64 v, .nilIface]) ∧ Below w.heap.size w w') ∨
  ((∀ v, Lib.atoiAll t ≠ .ok v) ∧ ∃ a te pe, e = .returned (.tuple #[.int .i64 a, .iface te pe]) ∧ Below w.heap.size w w')
def ErrCell (w : World) (g : Nat) : Prop := ∃ ev, w.cell? ⟨g, 0, none⟩ = some ev ∧ (ev = .nilIface ∨ ∃ te pe, ev = .iface te pe)
theorem ErrCell.keep {w w' : World} {g : Nat} (h : ErrCell w g) (hb : Below w.heap.size w w') : ErrCell w' g := by
  obtain ⟨ev, h1, h2⟩ := h; exact ⟨ev, cell_keep h1 hb, h2⟩
def ExpGot (o : Option Int) (w : World) (e : Ending) (w' : World) : Prop :=
  (∃ v, o = some v ∧ e = .returned (.tuple #[.int .i64 v, .bool true]) ∧ Below w.heap.size w w') ∨ (o = none ∧ e = .returned (.tuple #[.int .i64 0, .bool false]) ∧ Below w.heap.size w w')
theorem expD_none {neg : Bool} {t : List UInt8} (h : ¬ (t ≠ [] ∧ t.length ≤ 3 ∧ (∀ c ∈ t, isDig c = true) ∧ numOf 0 t ≤ 100)) : expD neg t = none := by unfold expD; rw [if_neg h]
theorem expD_some {neg : Bool} {t : List UInt8} (h : t ≠ [] ∧ t.length ≤ 3 ∧ (∀ c ∈ t, isDig c = true) ∧ numOf 0 t ≤ 100) : expD neg t = some (sgn neg (numOf 0 t)) := by unfold expD; rw [if_pos h]
end Vic
namespace Go.Proofs.YthephiihcgibjaaGreatDoor
open Go.RowKit Vic
/-- the tables, and the two errors of strconv -/
structure TabE (w : World) : Prop where
  tab : Tab w
  es : ErrCell w 1
  er : ErrCell w 2
theorem TabE.keep {w w' : World} (h : TabE w) (hb : Below w.heap.size w w') : TabE w' := ⟨h.tab.keep hb, h.es.keep hb, h.er.keep hb⟩
theorem atoi_gen (w : World) (t : List UInt8) (hl : t.length ≤ 1000) (ht : TabE w) : Calls Tryz.prog 119 #[.string ⟨t.toArray⟩] w (AtoiGot t w) := by
  have hsz : (⟨t.toArray⟩ : ByteArray).size = t.length := by show t.toArray.size = _; simp
  rcases hx : Lib.atoiAll t with v | _ | _
  · refine (Go.Proofs.Tryz.strconv_Atoi_ok ⟨t.toArray⟩ (by rw [hsz]; omega) v hx w).mono ?_
    rintro e w' ⟨rfl, rfl | ⟨t, rfl⟩⟩
    · exact .inl ⟨v, hx, rfl, Below.refl _ _⟩
    · exact .inl ⟨v, hx, rfl, Lib.bytesWorld_below _ _ _⟩
  · obtain ⟨ev, h1, h2⟩ := ht.es
    refine (Go.Proofs.Tryz.strconv_Atoi_syntax ⟨t.toArray⟩ (by rw [hsz]; omega) hx ev w h1 h2).mono ?_
    rintro e w' ⟨N, rfl, _, _, hb⟩
    exact .inr ⟨fun v h => (by rw [hx] at h; cases h), _, _, _, rfl, hb⟩
  · obtain ⟨ev, h1, h2⟩ := ht.er
    refine (Go.Proofs.Tryz.strconv_Atoi_range ⟨t.toArray⟩ (by rw [hsz]; omega) hx ev w h1 h2).mono ?_
    rintro e w' ⟨N, rfl, _, _, hb⟩
    exact .inr ⟨fun v h => (by rw [hx] at h; cases h), _, _, _, rfl, hb⟩

set_option maxRecDepth 100000 in
set_option maxHeartbeats 8000000 in
theorem lit_exponent_gen (w : World) (x : List UInt8) (hx : x.length ≤ 40) (ht : TabE w) : Calls Tryz.prog 64 #[.string ⟨x.toArray⟩] w (ExpGot (expo x) w) := by
  obtain ⟨t, neg, plus, hp, hne, hm', htl, hb⟩ : ∃ (t : List UInt8) (neg plus : Bool), Lib.trimPrefix x [43] = (if plus then t else x) ∧ (plus = true → (t == x) = false) ∧ (plus = false → Lib.trimPrefix x [45] = t) ∧ t.length ≤ 40 ∧ (expo x = expD neg t ∧ (t ≠ [] → ∃ h0 : 0 < (⟨x.toArray⟩ : ByteArray).size, ((((⟨x.toArray⟩ : ByteArray)[0]'h0).toNat : Int) == 45) = neg)) := by
    rcases x with _ | ⟨c, r⟩
    · exact ⟨[], false, false, rfl, fun h => (by cases h), fun _ => rfl, by simp, (expD_none (fun h => h.1 rfl)).symm, fun h => absurd rfl h⟩
    · have h0 : 0 < (⟨(c :: r).toArray⟩ : ByteArray).size := by show 0 < (c :: r).toArray.size; simp
      by_cases h43 : c = 43
      · subst h43
        refine ⟨r, false, true, by simp [Lib.trimPrefix, Lib.hasPrefix, pre_one], fun _ => ?_, fun h => (by cases h), by simp at hx; omega, by simp [expo], fun _ => ⟨h0, rfl⟩⟩
        rw [beq_eq_false_iff_ne]
        intro h
        have := congrArg List.length h
        simp at this
      · by_cases h45 : c = 45
        · subst h45
          exact ⟨r, true, false, by simp [Lib.trimPrefix, Lib.hasPrefix, pre_one], fun h => (by cases h), fun _ => (trim_neg r).1, by simp at hx; omega, by simp [expo], fun _ => ⟨h0, rfl⟩⟩
        · refine ⟨c :: r, false, false, by simp [Lib.trimPrefix, Lib.hasPrefix, pre_one, Ne.symm h43], fun h => (by cases h), fun _ => (trim_pos r h45).1, hx, by simp [expo, h43, h45], fun _ => ⟨h0, ?_⟩⟩
          have h2 : c.toNat ≠ 45 := fun e => h45 (UInt8.toNat_inj.1 e)
          show ((c.toNat : Int) == 45) = false
          rw [beq_eq_false_iff_ne]; omega
  obtain ⟨hex, hb⟩ := hb
  obtain ⟨y, hy⟩ : ∃ y, y = (if plus then t else x) := ⟨_, rfl⟩
  rw [← hy] at hp
  have C1 : Hid (∀ wr, Calls Tryz.prog 62 #[.string ⟨x.toArray⟩, .string ⟨#[43]⟩] wr (Rets (.string ⟨y.toArray⟩) wr)) := Lib.hid fun wr => by
    have := strings_TrimPrefix wr x [43]
    rwa [hp] at this
  have C2 : Hid (plus = false → ∀ wr, Calls Tryz.prog 62 #[.string ⟨x.toArray⟩, .string ⟨#[45]⟩] wr (Rets (.string ⟨t.toArray⟩) wr)) := Lib.hid fun h wr => by
    have := strings_TrimPrefix wr x [45]
    rwa [hm' h] at this
  have CA : Hid (∀ wr, Below w.heap.size w wr → Calls Tryz.prog 119 #[.string ⟨t.toArray⟩] wr (AtoiGot t wr)) := Lib.hid fun wr h => atoi_gen wr t (by omega) (ht.keep h)
  have CD : Hid (∀ wr, Calls Tryz.prog 66 #[.string ⟨t.toArray⟩] wr (Keeps (.bool (decide (∀ c ∈ t, isDig c = true))) wr)) := Lib.hid fun wr => lit_digits wr t (by omega)
  have HEX := Lib.hid hex; have HB := Lib.hid hb
  have htl' : (t.length : Int) ≤ 40 := by omega
  clear hp hm' ht hex hb
  cases plus
  case' false =>
    change y = x at hy
    have hy2 := hy.symm
    clear hy
    subst hy2
  case' true =>
    change y = t at hy
    have hy2 := hy.symm
    clear hy
    subst hy2
    have hne2 := hne rfl
  all_goals
    clear hne
    go_enter Tryz.func64, Tryz.ntmps64
    go_wp2_with fail
    refine (C1.out _).mono ?_
    rintro e w' ⟨rfl, rfl⟩
    go_wp2_with fail
  all_goals first
    | (go_at_call 62
       refine (C2.out (by first | rfl | trivial) _).mono ?_
       rintro e w' ⟨rfl, rfl⟩
       go_wp2_with fail)
    | skip
  all_goals
    clear C1 C2
    go_at_call 119
    refine (CA.out _ (Below.refl _ _)).mono ?_
    rintro e w1 (⟨v, hv, rfl, hb1⟩ | ⟨hno, a, te, pe, rfl, hb1⟩)
  all_goals first
    | (have hno1 := hno
       clear CA CD
       go_wp2_with fail
       go_ret2
       refine .inr ⟨?_, rfl, hb1⟩
       rw [HEX.out]
       exact expD_none fun h => hno1 _ (atoi_digs h.1 h.2.1 h.2.2.1))
    | (have HV := Lib.hid hv
       clear CA hv
       go_wp2_with fail
       go_at_call 66
       by_cases hd : ∀ c ∈ t, isDig c = true
       · have CD1 : Hid (∀ wr, Calls Tryz.prog 66 #[.string ⟨t.toArray⟩] wr (Keeps (.bool true) wr)) := Lib.hid fun wr => by
           have h := CD.out wr
           rwa [decide_eq_true hd] at h
         have HD := Lib.hid hd
         clear CD hd
         refine (CD1.out _).mono ?_
         rintro e w2 ⟨rfl, hb2⟩
         have B2 := below_seq hb1 hb2
         by_cases hl3 : t.length ≤ 3
         · have hne0 : t ≠ [] := fun h => by have h1 := HV.out; rw [h] at h1; cases h1
           obtain ⟨h0, hby⟩ := HB.out hne0
           have hvn : v = (numOf 0 t : Int) := by
             have h1 := HV.out
             rw [atoi_digs hne0 hl3 HD.out] at h1
             injection h1 with h1
             exact h1.symm
           subst hvn
           have HN0 := Lib.hid hne0
           have h1000 : numOf 0 t < 1000 := Nat.lt_of_lt_of_le (numOf_lt _ HD.out) (Nat.pow_le_pow_right (by omega) hl3)
           obtain ⟨n, hn⟩ : ∃ n, n = numOf 0 t := ⟨_, rfl⟩
           rw [← hn] at h1000 ⊢
           have HNN := Lib.hid hn
           have hl3' : ¬ (3 : Int) < (t.length : Int) := by omega
           clear HB hn hne0 HV CD1
           by_cases h100 : n ≤ 100
           · have h100' : ¬ (100 : Int) < (n : Int) := by omega
             cases neg
             all_goals
               go_wp2_with fail
               go_ret2
               refine .inl ⟨_, ?_, rfl, B2⟩
               rw [HEX.out, expD_some ⟨HN0.out, hl3, HD.out, by rw [← HNN.out]; exact h100⟩, ← HNN.out]
               rfl
           · have h100' : (100 : Int) < (n : Int) := by omega
             go_wp2_with fail
             go_ret2
             refine .inr ⟨?_, rfl, B2⟩
             rw [HEX.out]
             exact expD_none fun h => h100 (by rw [HNN.out]; exact h.2.2.2)
         · have hl3' : (3 : Int) < (t.length : Int) := by omega
           clear HB HV CD1
           go_wp2_with fail
           go_ret2
           refine .inr ⟨?_, rfl, B2⟩
           rw [HEX.out]
           exact expD_none fun h => hl3 h.2.1
       · have CD1 : Hid (∀ wr, Calls Tryz.prog 66 #[.string ⟨t.toArray⟩] wr (Keeps (.bool false) wr)) := Lib.hid fun wr => by
           have h := CD.out wr
           rwa [decide_eq_false hd] at h
         have HD := Lib.hid hd
         clear CD hd HB HV
         refine (CD1.out _).mono ?_
         rintro e w2 ⟨rfl, hb2⟩
         have B2 := below_seq hb1 hb2
         go_wp2_with fail
         go_ret2
         refine .inr ⟨?_, rfl, B2⟩
         rw [HEX.out]
         exact expD_none fun h => HD.out h.2.2.1)
end Go.Proofs.YthephiihcgibjaaGreatDoor
