/- Package lit: a literal with an exponent. -/
import Derived.Test.YthephiihcgibjaaGreatDoorJWalkE
import Derived.Test.YthephiihcgibjaaGreatDoorJGoodRef
import Derived.Test.YthephiihcgibjaaGreatDoorJWalkL
import Derived.Test.YthephiihcgibjaaGreatDoorJFormLaw
set_option linter.unusedVariables false
set_option linter.unusedSimpArgs false
namespace Vic
open Go
theorem indexAny_app (m : List UInt8) (c : UInt8) (x : List UInt8) (hm : ∀ b ∈ m, isDig b = true ∨ b = 46) (hc : c = 101 ∨ c = 69) : Lib.indexAny (m ++ c :: x) [101, 69] = (m.length : Int) := by
  induction m with
  | nil => rcases hc with rfl | rfl <;> simp [Lib.indexAny]
  | cons b r ih =>
    have h1 := ih (fun d hd => hm d (List.mem_cons_of_mem _ hd))
    have hb : ([101, 69] : List UInt8).contains b = false := by
      rcases hm b (List.mem_cons_self) with h | h
      · have e1 : b ≠ 101 := dig_ne h (by decide)
        have e2 : b ≠ 69 := dig_ne h (by decide)
        simp [e1, e2]
      · subst h; decide
    have h3 : (((r.length : Nat) : Int) == -1) = false := by rw [beq_eq_false_iff_ne]; omega
    rw [List.cons_append, Lib.indexAny, hb, h1, h3]
    simp
set_option maxRecDepth 100000 in
theorem atoi_small_all : ∀ k : Fin 101, (match Lib.atoiAll (Lib.decDigits k.1) with | .ok v => v == (k.1 : Int) | _ => false) = true := by decide +kernel
theorem atoi_small (n : Nat) (h : n ≤ 100) : Lib.atoiAll (Lib.decDigits n) = .ok (n : Int) := by
  have h1 := atoi_small_all ⟨n, by omega⟩
  have h2 : (match Lib.atoiAll (Lib.decDigits n) with | .ok v => v == (n : Int) | _ => false) = true := h1
  rcases hx : Lib.atoiAll (Lib.decDigits n) with v | _ | _
  · rw [hx] at h2
    have h3 : (v == (n : Int)) = true := h2
    rw [beq_iff_eq.1 h3]
  · rw [hx] at h2; cases h2
  · rw [hx] at h2; cases h2
theorem fracGood_char {l : List UInt8} (h : FracGood l) : ∀ x ∈ l, isDig x = true ∨ x = 45 ∨ x = 47 := by
  intro x hx
  have e := h.2.2.2
  have hx2 : x ∈ fracText (fracOf l) := by rw [e]; exact hx
  rw [fracText_sgnT] at hx2
  unfold sgnT at hx2
  rcases List.mem_append.1 hx2 with h1 | h1
  · split at h1
    · simp at h1; exact .inr (.inl h1)
    · simp at h1
  · rcases List.mem_append.1 h1 with h2 | h2
    · exact .inl (dec_isDig _ x h2)
    · split at h2
      · simp at h2
      · rcases List.mem_cons.1 h2 with h3 | h3
        · exact .inr (.inr h3)
        · exact .inl (dec_isDig _ x h3)
theorem trimLeft_canon {d : List UInt8} (h : Canon d) : (d = [48] ∧ Lib.trimLeftB d 48 = []) ∨ (Lib.trimLeftB d 48 = d ∧ d ≠ []) := by
  by_cases hd : d = [48]
  · subst hd; exact .inl ⟨rfl, by decide⟩
  · right
    obtain ⟨h0, h1, h2⟩ := h
    refine ⟨?_, h0⟩
    match d, h0, h2, hd with
    | c :: r, _, h2, hd =>
      have hc : c ≠ 48 := fun e => by
        subst e
        rcases h2 with h2 | h2
        · have : r = [] := by simpa using h2
          subst this; exact hd rfl
        · simp at h2
      simp [Lib.trimLeftB, hc]
end Vic
namespace Go.Proofs.YthephiihcgibjaaGreatDoor
open Go.RowKit Vic

set_option maxRecDepth 100000 in
set_option maxHeartbeats 2000000 in
theorem lit_exponent (w : World) (en : Bool) (n : Nat) (hn : n ≤ 100) (hz : en = true → n ≠ 0) :
    Calls Tryz.prog 64 #[.string ⟨(sgnT en (Lib.decDigits n)).toArray⟩] w (Keeps (.tuple #[.int .i64 (sgn en n), .bool true]) w) := by
  have hat := atoi_small n hn
  have hdl : (Lib.decDigits n).length ≤ 3 := dec_len (k := 2) (by omega)
  have hdg := dec_isDig n
  obtain ⟨c, r, hD⟩ : ∃ c r, Lib.decDigits n = c :: r := by
    rcases h : Lib.decDigits n with _ | ⟨c, r⟩
    · exact absurd h (dec_ne n)
    · exact ⟨c, r, rfl⟩
  rw [hD] at hat hdl hdg ⊢
  have hc45 : c ≠ 45 := dig_ne (hdg c List.mem_cons_self) (by decide)
  have hc43 : c ≠ 43 := dig_ne (hdg c List.mem_cons_self) (by decide)
  have CA : Hid (∀ wr, Calls Tryz.prog 119 #[.string ⟨(c :: r).toArray⟩] wr (Keeps (.tuple #[.int .i64 n, .nilIface]) wr)) := Lib.hid fun wr => by
    refine (Go.Proofs.Tryz.strconv_Atoi_ok ⟨(c :: r).toArray⟩ (by show (c :: r).toArray.size ≤ _; simp at hdl ⊢; omega) n hat wr).mono ?_
    rintro e w' ⟨rfl, rfl | ⟨t, rfl⟩⟩
    · exact ⟨rfl, Below.refl _ _⟩
    · exact ⟨rfl, Lib.bytesWorld_below _ _ _⟩
  have CD : Hid (∀ wr, Calls Tryz.prog 66 #[.string ⟨(c :: r).toArray⟩] wr (Keeps (.bool true) wr)) := Lib.hid fun wr => by
    have := lit_digits wr (c :: r) (by omega)
    rwa [decide_eq_true hdg] at this
  have hlen : (r.length : Int) + 1 ≤ 3 := by simp at hdl; omega
  have hn' : (n : Int) ≤ 100 := by omega
  cases en
  · have C1 : Hid (∀ wr, Calls Tryz.prog 62 #[.string ⟨(c :: r).toArray⟩, .string ⟨#[43]⟩] wr (Rets (.string ⟨(c :: r).toArray⟩) wr)) := Lib.hid fun wr => by
      have := strings_TrimPrefix wr (c :: r) [43]
      rwa [show Lib.trimPrefix (c :: r) [43] = c :: r by simp [Lib.trimPrefix, Lib.hasPrefix, pre_one, Ne.symm hc43]] at this
    have C2 : Hid (∀ wr, Calls Tryz.prog 62 #[.string ⟨(c :: r).toArray⟩, .string ⟨#[45]⟩] wr (Rets (.string ⟨(c :: r).toArray⟩) wr)) := Lib.hid fun wr => by
      have := strings_TrimPrefix wr (c :: r) [45]
      rwa [(trim_pos r hc45).1] at this
    obtain ⟨T, hT⟩ : ∃ T : List UInt8, T = c :: r := ⟨_, rfl⟩
    obtain ⟨h0, hb⟩ : ∃ h0 : 0 < (⟨T.toArray⟩ : ByteArray).size, (((((⟨T.toArray⟩ : ByteArray)[0]'h0).toNat : Int)) == 45) = false := by
      subst hT
      refine ⟨by show 0 < (c :: r).toArray.size; simp, ?_⟩
      have h2 : c.toNat ≠ 45 := fun e => hc45 (UInt8.toNat_inj.1 e)
      show ((c.toNat : Int) == 45) = false
      rw [beq_eq_false_iff_ne]; omega
    have hT0 : 0 < T.length := by rw [hT]; simp
    have hTl : (T.length : Int) ≤ 3 := by rw [hT]; simp; omega
    show Calls Tryz.prog 64 #[.string ⟨(c :: r).toArray⟩] w _
    rw [← hT] at C1 C2 CA CD ⊢
    have hs : sgn false n = (n : Int) := rfl
    rw [hs]
    clear hT hdg hat hD hdl hlen hc45 hc43 hz
    go_enter Tryz.func64, Tryz.ntmps64
    go_wp2_with fail
    refine (C1.out _).mono ?_
    rintro e w' ⟨rfl, rfl⟩
    go_wp2_with fail
    refine (C2.out _).mono ?_
    rintro e w' ⟨rfl, rfl⟩
    go_wp2_with fail
    refine (CA.out _).mono ?_
    rintro e w1 ⟨rfl, hb1⟩
    go_wp2_with fail
    refine (CD.out _).mono ?_
    rintro e w2 ⟨rfl, hb2⟩
    go_wp2_with fail
    go_ret2
    exact ⟨rfl, below_seq hb1 hb2⟩
  · have C1 : Hid (∀ wr, Calls Tryz.prog 62 #[.string ⟨((45 : UInt8) :: c :: r).toArray⟩, .string ⟨#[43]⟩] wr (Rets (.string ⟨((45 : UInt8) :: c :: r).toArray⟩) wr)) := Lib.hid fun wr => by
      have := strings_TrimPrefix wr (45 :: c :: r) [43]
      rwa [show Lib.trimPrefix (45 :: c :: r) [43] = 45 :: c :: r by simp [Lib.trimPrefix, Lib.hasPrefix, pre_one]] at this
    have C2 : Hid (∀ wr, Calls Tryz.prog 62 #[.string ⟨((45 : UInt8) :: c :: r).toArray⟩, .string ⟨#[45]⟩] wr (Rets (.string ⟨(c :: r).toArray⟩) wr)) := Lib.hid fun wr => by
      have := strings_TrimPrefix wr (45 :: c :: r) [45]
      rwa [(trim_neg (c :: r)).1] at this
    obtain ⟨D, hDD⟩ : ∃ D : List UInt8, D = c :: r := ⟨_, rfl⟩
    have hDl : (D.length : Int) ≤ 3 := by rw [hDD]; simp; omega
    obtain ⟨T, hT⟩ : ∃ T : List UInt8, T = 45 :: c :: r := ⟨_, rfl⟩
    obtain ⟨h0, hb⟩ : ∃ h0 : 0 < (⟨T.toArray⟩ : ByteArray).size, (((((⟨T.toArray⟩ : ByteArray)[0]'h0).toNat : Int)) == 45) = true := by
      subst hT
      exact ⟨by show 0 < ((45 : UInt8) :: c :: r).toArray.size; simp, rfl⟩
    have hT0 : 0 < T.length := by rw [hT]; simp
    show Calls Tryz.prog 64 #[.string ⟨((45 : UInt8) :: c :: r).toArray⟩] w _
    rw [← hT] at C1 C2 ⊢
    rw [← hDD] at C2 CA CD
    have hs : sgn true n = -(n : Int) := rfl
    rw [hs]
    clear hT hDD hdg hat hD hdl hlen hc45 hc43 hz
    go_enter Tryz.func64, Tryz.ntmps64
    go_wp2_with fail
    refine (C1.out _).mono ?_
    rintro e w' ⟨rfl, rfl⟩
    go_wp2_with fail
    refine (C2.out _).mono ?_
    rintro e w' ⟨rfl, rfl⟩
    go_wp2_with fail
    refine (CA.out _).mono ?_
    rintro e w1 ⟨rfl, hb1⟩
    go_wp2_with fail
    refine (CD.out _).mono ?_
    rintro e w2 ⟨rfl, hb2⟩
    go_wp2_with fail
    go_ret2
    exact ⟨rfl, below_seq hb1 hb2⟩

set_option maxRecDepth 100000 in
set_option maxHeartbeats 8000000 in
theorem lit_Get_form (w : World) (ht : Tab w) (neg : Bool) (a b : List UInt8) (dot : Bool) (c : UInt8) (hc : c = 101 ∨ c = 69) (hdot : dot = false → b = []) (hd : Canon (a ++ b)) (hl : (a ++ b).length ≤ 12) (en : Bool) (k : Nat) (hk : k ≤ 100) (hk0 : en = true → k ≠ 0) :
    Calls Tryz.prog 16 #[.string ⟨(sgnT neg ((a ++ (if dot then 46 :: b else [])) ++ c :: sgnT en (Lib.decDigits k))).toArray⟩] w (GivesOk (fun x w' => FracPtr w' x (qv neg (numOf 0 (a ++ b)) (sgn en k - b.length))) w) := by
  obtain ⟨M, hM⟩ : ∃ M, M = a ++ (if dot then 46 :: b else []) := ⟨_, rfl⟩
  obtain ⟨X, hX⟩ : ∃ X, X = sgnT en (Lib.decDigits k) := ⟨_, rfl⟩
  obtain ⟨T, hT⟩ : ∃ T, T = M ++ c :: X := ⟨_, rfl⟩
  obtain ⟨D, hD⟩ : ∃ D, D = a ++ b := ⟨_, rfl⟩
  have hda : ∀ x ∈ a, isDig x = true := fun x hx => hd.2.1 x (List.mem_append.2 (.inl hx))
  have hdb : ∀ x ∈ b, isDig x = true := fun x hx => hd.2.1 x (List.mem_append.2 (.inr hx))
  have hMc : ∀ x ∈ M, isDig x = true ∨ x = 46 := by
    intro x hx
    rw [hM] at hx
    rcases List.mem_append.1 hx with h | h
    · exact .inl (hda x h)
    · cases dot
      · simp at h
      · rcases List.mem_cons.1 h with h | h
        · exact .inr h
        · exact .inl (hdb x h)
  have hMne : M ≠ [] := by
    intro e
    rw [hM] at e
    obtain ⟨e1, e2⟩ := List.append_eq_nil_iff.1 e
    cases dot
    · exact hd.1 (by rw [e1, hdot rfl]; rfl)
    · cases e2
  obtain ⟨m0, mr, hMm⟩ : ∃ m0 mr, M = m0 :: mr := by
    rcases M with _ | ⟨m0, mr⟩
    · exact absurd rfl hMne
    · exact ⟨m0, mr, rfl⟩
  have hm0 := hMc m0 (by rw [hMm]; exact List.mem_cons_self)
  have hm45 : m0 ≠ 45 := by rcases hm0 with h | h; exact dig_ne h (by decide); rw [h]; decide
  have hm43 : m0 ≠ 43 := by rcases hm0 with h | h; exact dig_ne h (by decide); rw [h]; decide
  have hMl : M.length ≤ 13 := by
    rw [hM]
    cases dot
    · simp at hl ⊢; omega
    · simp at hl ⊢; omega
  have hXl : X.length ≤ 4 := by
    have h1 : (Lib.decDigits k).length ≤ 3 := dec_len (k := 2) (by omega)
    rw [hX]; unfold sgnT; cases en <;> simp <;> omega
  have hTl : T.length ≤ 18 := by rw [hT]; simp; omega
  have hTm : M.length + 1 ≤ T.length := by rw [hT]; simp
  have hnog : ¬ FracGood (sgnT neg T) := fun h => by
    have h1 := fracGood_char h c (by unfold sgnT; rw [hT]; simp)
    rcases hc with rfl | rfl
    · revert h1; decide
    · revert h1; decide
  have hcut : Lib.cut M [46] = (a, b, dot) := by
    have h46 : (46 : UInt8) ∉ a := fun h => by have := hda 46 h; revert this; decide
    rw [hM]
    cases dot
    · rw [hdot rfl]; simp; exact cut_none h46
    · exact cut_app b h46
  have hix : Lib.indexAny T [101, 69] = (M.length : Int) := by rw [hT]; exact indexAny_app M c X hMc hc
  have hasc : ∀ (j : Nat) x, T[j]? = some x → x.toNat < 128 := by
    have hall : ∀ x ∈ T, x.toNat < 128 := by
      intro x hx
      rw [hT] at hx
      have hdig : ∀ y : UInt8, isDig y = true → y.toNat < 128 := fun y hy => by have := isDig_iff.1 hy; omega
      rcases List.mem_append.1 hx with h | h
      · rcases hMc x h with h | h
        · exact hdig x h
        · rw [h]; decide
      · rcases List.mem_cons.1 h with h | h
        · rcases hc with e | e <;> rw [h, e] <;> decide
        · rw [hX] at h
          unfold sgnT at h
          rcases List.mem_append.1 h with h | h
          · split at h
            · simp at h; rw [h]; decide
            · simp at h
          · exact hdig x (dec_isDig _ x h)
    exact fun j x hx => hall x (List.mem_of_getElem? hx)
  have ex1 : (⟨T.toArray⟩ : ByteArray).extract (M.length + 1) T.length = ⟨X.toArray⟩ := by
    rw [bytes_drop _ _ _ rfl, hT]; congr 2; simp
  have ex2 : (⟨T.toArray⟩ : ByteArray).extract 0 M.length = ⟨M.toArray⟩ := by
    rw [bytes_take, hT]; congr 2; simp
  have CG : Hid (Calls Tryz.prog 51 #[.string ⟨(sgnT neg T).toArray⟩] w (GivesNo w)) := by
    refine (frac_Get w (sgnT neg T) (by unfold sgnT; cases neg <;> simp <;> omega) ht).mono ?_
    rintro e w' (⟨_, h⟩ | ⟨h, _⟩)
    · exact h
    · exact absurd h hnog
  have CIx : Hid (∀ wr, Calls Tryz.prog 63 #[.string ⟨T.toArray⟩, .string ⟨#[101, 69]⟩] wr (Keeps (.int .i64 (M.length : Nat)) wr)) := Lib.hid fun wr => by
    have h := Go.Proofs.Tryz.strings_IndexAny_laid ⟨T.toArray⟩ ⟨#[101, 69]⟩ wr (by show T.toArray.size < _; simp; omega) (by decide) hasc (ascii_of_all (by decide))
    rw [show Lib.indexAny (⟨T.toArray⟩ : ByteArray).data.toList (⟨#[101, 69]⟩ : ByteArray).data.toList = (M.length : Int) from hix] at h
    exact h
  have CX : Hid (∀ wr, Calls Tryz.prog 64 #[.string ⟨X.toArray⟩] wr (Keeps (.tuple #[.int .i64 (sgn en k), .bool true]) wr)) := Lib.hid fun wr => by
    rw [hX]; exact lit_exponent wr en k hk hk0
  have HT := Lib.hid ht
  have CC : Hid (∀ wr, Below w.heap.size w wr → Calls Tryz.prog 65 #[.string ⟨M.toArray⟩, .string ⟨#[46]⟩] wr (Keeps (.tuple #[.string ⟨a.toArray⟩, .string ⟨b.toArray⟩, .bool dot]) wr)) := Lib.hid fun wr h => by
    have h1 := strings_Cut wr (HT.out.keep h) M [46] (by omega)
    rwa [hcut] at h1
  have CDa : Hid (∀ wr, Calls Tryz.prog 66 #[.string ⟨a.toArray⟩] wr (Keeps (.bool true) wr)) := Lib.hid fun wr => by
    have := lit_digits wr a (by simp at hl; omega)
    rwa [decide_eq_true hda] at this
  have CDb : Hid (∀ wr, Calls Tryz.prog 66 #[.string ⟨b.toArray⟩] wr (Keeps (.bool true) wr)) := Lib.hid fun wr => by
    have := lit_digits wr b (by simp at hl; omega)
    rwa [decide_eq_true hdb] at this
  have ea : (⟨a.toArray⟩ ++ ⟨b.toArray⟩ : ByteArray) = ⟨D.toArray⟩ := by rw [hD]; exact bytes_app a b
  have hDne : D.isEmpty = false := by
    rw [hD]
    rcases h : a ++ b with _ | ⟨x, y⟩
    · exact absurd h hd.1
    · rfl
  have CTL : Hid (∀ wr, Calls Tryz.prog 67 #[.string ⟨D.toArray⟩, .string ⟨#[48]⟩] wr (Rets (.string ⟨(Lib.trimLeftB D 48).toArray⟩) wr)) := Lib.hid fun wr => by
    refine (Go.Proofs.Tryz.strings_TrimLeft_one ⟨D.toArray⟩ 48 (by decide) wr).mono ?_
    rintro e w' ⟨rfl, rfl⟩
    exact ⟨rfl, rfl⟩
  rw [← hD] at hd hl ⊢
  obtain ⟨n, hn⟩ : ∃ n, n = numOf 0 D := ⟨_, rfl⟩
  have hn12 : n < 10 ^ 12 := by rw [hn]; exact Nat.lt_of_lt_of_le (numOf_lt D hd.2.1) (Nat.pow_le_pow_right (by omega) hl)
  have hsn := num12_len hn12
  have CN : Hid (∀ wr, Calls Tryz.prog 50 #[.string ⟨D.toArray⟩] wr (GivesOk (fun x w' => NatPtr w' x n) wr)) := Lib.hid fun wr => by
    rw [hn]; exact nat_Get_yes wr D ⟨hd, by omega⟩
  have hal : a.length + b.length ≤ 12 := by rw [hD] at hl; simpa using hl
  obtain ⟨ex, hex⟩ : ∃ ex : Int, ex = sgn en k := ⟨_, rfl⟩
  have hexb : -100 ≤ ex ∧ ex ≤ 100 := by rw [hex]; unfold sgn; split <;> omega
  obtain ⟨m, hm⟩ : ∃ m, m = M.length := ⟨_, rfl⟩
  rw [← hex] at CX ⊢
  rw [← hm] at CIx ex1 ex2 hTm
  have hbl : b.length ≤ 12 := by omega
  obtain ⟨bl, hble⟩ : ∃ bl, bl = b.length := ⟨_, rfl⟩
  rw [← hn]
  have htz := trimLeft_canon hd
  have HSN := Lib.hid hsn
  have P45 : Lib.hasPrefix T [45] = false ∧ Lib.trimPrefix T [45] = T ∧ Lib.trimPrefix T [43] = T := by
    rw [hT, hMm]
    exact ⟨(trim_pos _ hm45).2, (trim_pos _ hm45).1, by simp [Lib.trimPrefix, Lib.hasPrefix, pre_one, Ne.symm hm43]⟩
  obtain ⟨p45, p46, p43⟩ := P45
  obtain ⟨p, hp⟩ : ∃ p : Int, p = ex - b.length := ⟨_, rfl⟩
  rw [← hp]
  have e5 : ex - (b.length : Int) = p := hp.symm
  have e6 : IntKind.i64.wrap (ex - (b.length : Int)) = p := by rw [IntKind.wrap_i64]; omega
  have hpb : -112 ≤ p ∧ p ≤ 100 := by omega
  obtain ⟨S, hS⟩ : ∃ S, S = sgnT neg T := ⟨_, rfl⟩
  have hlb : S.length ≤ 40 := by rw [hS]; unfold sgnT; cases neg <;> simp <;> omega
  have CH : Hid (∀ wr, Calls Tryz.prog 61 #[.string ⟨S.toArray⟩, .string ⟨#[45]⟩] wr (Rets (.bool neg) wr)) := Lib.hid fun wr => by
    have h := strings_HasPrefix wr S [45]
    rwa [show Lib.hasPrefix S [45] = neg by
      rw [hS]
      cases neg
      · exact p45
      · exact (trim_neg T).2] at h
  have CP1 : Hid (∀ wr, Calls Tryz.prog 62 #[.string ⟨S.toArray⟩, .string ⟨#[45]⟩] wr (Rets (.string ⟨T.toArray⟩) wr)) := Lib.hid fun wr => by
    have h := strings_TrimPrefix wr S [45]
    rwa [show Lib.trimPrefix S [45] = T by
      rw [hS]
      cases neg
      · exact p46
      · exact (trim_neg T).1] at h
  have CP2 : Hid (neg = false → ∀ wr, Calls Tryz.prog 62 #[.string ⟨S.toArray⟩, .string ⟨#[43]⟩] wr (Rets (.string ⟨T.toArray⟩) wr)) := Lib.hid fun hneg wr => by
    have h := strings_TrimPrefix wr S [43]
    rwa [show Lib.trimPrefix S [43] = T by
      rw [hS, hneg]
      exact p43] at h
  have CFN : Hid (∀ wr u v n d, NatAt wr u n → NatAt wr v d → d ≠ 0 → sz n ≤ 10000 → sz d ≤ 10000 → Calls Tryz.prog 68 #[.bool neg, u, v] wr (GivesOk (fun x w' => FracPtr w' x (quo neg n d)) wr)) := Lib.hid fun wr u v n d hu hv h0 hnl hdl => frac_New wr neg u v n d hu hv h0 (by omega) (by omega)
  have CMU : Hid (∀ wr u v n d, NatAt wr u n → NatAt wr v d → sz n ≤ 10000 → sz d ≤ 10000 → Calls Tryz.prog 69 #[u, v] wr (Gives (fun x w' => NatAt w' x (n * d)) wr)) := Lib.hid fun wr u v n d hu hv hnl hdl => nat_Mul wr u v n d hu hv (Nat.le_trans hnl (by omega)) (Nat.le_trans hdl (by omega))
  rw [← hM, ← hX, ← hT]
  rw [← hS] at CG ⊢
  clear hS p45 p46 p43 hp hn12 hsn hn hex hM hX hMc hMne hMm hm0 hm45 hm43 hda hdb hnog hcut hix hasc hdot hc hk hk0 hXl hMl hD ht hm hT
  obtain ⟨Z, hZ⟩ : ∃ Z, Z = Lib.trimLeftB D 48 := ⟨_, rfl⟩
  rw [← hZ] at CTL htz
  have HTZ := Lib.hid htz
  clear htz hZ hd
  have HP2 : Hid ((∃ q P : Nat, q ≤ 100 ∧ p = (q : Int) ∧ P ≠ 0 ∧ Hid (sz P ≤ 21) ∧ Hid (∀ wr, Calls Tryz.prog 70 #[.int .i64 q] wr (Gives (fun x w' => NatPtr w' x P) wr)) ∧ Hid (∀ ng, qv ng n p = quo ng (n * P) 1)) ∨
      (∃ q P : Nat, 0 < q ∧ q ≤ 112 ∧ p = -(q : Int) ∧ P ≠ 0 ∧ Hid (sz P ≤ 21) ∧ Hid (∀ wr, Calls Tryz.prog 70 #[.int .i64 q] wr (Gives (fun x w' => NatPtr w' x P) wr)) ∧ Hid (∀ ng, qv ng n p = quo ng n P))) := Lib.hid (by
    rcases Int.lt_or_le p 0 with h | h
    · refine .inr ⟨(-p).toNat, 10 ^ (-p).toNat, by omega, by omega, by omega, Nat.ne_of_gt (Nat.pow_pos (by omega)), Lib.hid (pow10_len (by omega)), Lib.hid fun wr => lit_tens wr _ (by omega), Lib.hid fun ng => ?_⟩
      unfold qv; rw [if_neg (by omega)]
    · refine .inl ⟨p.toNat, 10 ^ p.toNat, by omega, by omega, Nat.ne_of_gt (Nat.pow_pos (by omega)), Lib.hid (pow10_len (by omega)), Lib.hid fun wr => lit_tens wr _ (by omega), Lib.hid fun ng => ?_⟩
      unfold qv; rw [if_pos h])
  have CO : Hid (∀ wr, Calls Tryz.prog 71 #[.int .u64 1] wr (Gives (fun v w' => NatPtr w' v 1) wr)) := Lib.hid fun wr => nat_Ofp wr 1 (by omega)
  go_enter Tryz.func16, Tryz.ntmps16
  go_wp2_with fail
  refine CG.out.mono ?_
  rintro e w1 ⟨rfl, hb1⟩
  go_wp2_with fail
  refine (CH.out _).mono ?_
  rintro e w' ⟨rfl, rfl⟩
  go_wp2_with fail
  refine (CP1.out _).mono ?_
  rintro e w' ⟨rfl, rfl⟩
  clear CG CH CP1
  cases neg
  case' false =>
    go_wp2_with fail
    refine (CP2.out (by first | rfl | trivial) _).mono ?_
    rintro e w' ⟨rfl, rfl⟩
  all_goals
    clear CP2
    go_wp2_with fail
    refine (CIx.out _).mono ?_
    rintro e w2 ⟨rfl, hb2⟩
    go_wp2_with fail
    refine (CX.out _).mono ?_
    rintro e w3 ⟨rfl, hb3⟩
    have B3 := below_seq hb1 (below_seq hb2 hb3)
    clear CIx CX hb1 hb2 hb3
    go_wp2_with fail
    refine (CC.out _ B3).mono ?_
    rintro e w4 ⟨rfl, hb4⟩
    have B4 := below_seq B3 hb4
    clear CC B3 hb4 ex1 ex2
    go_wp2_with fail
    refine (CDa.out _).mono ?_
    rintro e w5 ⟨rfl, hb5⟩
    go_wp2_with fail
    refine (CDb.out _).mono ?_
    rintro e w6 ⟨rfl, hb6⟩
    have B6 := below_seq B4 (below_seq hb5 hb6)
    clear CDa CDb B4 hb5 hb6
    go_wp2_with fail
    refine (CTL.out _).mono ?_
    rintro e w' ⟨rfl, rfl⟩
    clear CTL ea
    rcases HTZ.out with ⟨rfl, rfl⟩ | ⟨rfl, hz0⟩
  all_goals
    clear HTZ
    go_wp2_with fail
    refine (CN.out _).mono ?_
    rintro e w7 ⟨x7, rfl, hx7, hb7⟩
    have B7 := below_seq B6 hb7
    have HX7 := Lib.hid hx7
    clear CN B6 hb7 hx7 hDne
    rcases HP2.out with ⟨q, P, hq, rfl, h10, HP, CTE, HQ⟩ | ⟨q, P, hq0, hq, rfl, h10, HP, CTE, HQ⟩
  all_goals
    clear HP2
    go_wp2_with fail
    go_at_call 70
    refine (CTE.out _).mono ?_
    rintro e w8 ⟨x8, rfl, hx8, hb8⟩
    have B8 := below_seq B7 hb8
  all_goals first
    | (go_wp2_with fail
       go_at_call 68
       have CN9 := Lib.hid (CFN.out w8 x7 x8 n P (HX7.out.keep hb8).at_ hx8.at_ h10 (Nat.le_trans HSN.out (by omega)) (Nat.le_trans HP.out (by omega)))
       refine CN9.out.mono ?_
       rintro e w9 ⟨x9, rfl, hx9, hb9⟩
       go_wp2_with fail
       go_ret2
       exact ⟨x9, rfl, by rw [HQ.out]; exact hx9, below_seq B8 hb9⟩)
    | (go_wp2_with fail
       go_at_call 69
       have CM9 := Lib.hid (CMU.out w8 x7 x8 n P (HX7.out.keep hb8).at_ hx8.at_ (Nat.le_trans HSN.out (by omega)) (Nat.le_trans HP.out (by omega)))
       have hml : Hid (sz (n * P) ≤ 23) := Lib.hid (len_mul HSN.out HP.out (by omega))
       refine CM9.out.mono ?_
       rintro e w9 ⟨x9, rfl, hx9, hb9⟩
       have HX9 := Lib.hid hx9
       go_wp2_with fail
       refine (CO.out _).mono ?_
       rintro e w10 ⟨x10, rfl, hx10, hb10⟩
       have CN9 := Lib.hid (CFN.out w10 x9 x10 (n * P) 1 (HX9.out.keep hb10) hx10.at_ (by omega) (Nat.le_trans hml.out (by omega)) (Nat.le_trans (sz_word (by omega)) (by omega)))
       go_wp2_with fail
       refine CN9.out.mono ?_
       rintro e w11 ⟨x11, rfl, hx11, hb11⟩
       go_wp2_with fail
       go_ret2
       exact ⟨x11, rfl, by rw [HQ.out]; exact hx11, below_seq B8 (below_seq hb9 (below_seq hb10 hb11))⟩)
end Go.Proofs.YthephiihcgibjaaGreatDoor
