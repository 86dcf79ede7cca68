/- Package lit: Get, whatever the text. -/
import Derived.Test.YthephiihcgibjaaGreatDoorJLitE
import Derived.Test.YthephiihcgibjaaGreatDoorJLitD
set_option linter.unusedVariables false
set_option linter.unusedSimpArgs false
namespace Vic
open Go Go.RowKit
theorem cut_len {m a b : List UInt8} {dot : Bool} (h : Lib.cut m [46] = (a, b, dot)) : a.length + b.length ≤ m.length ∧ ∀ e, mant m e = if mantOk a b then some (numOf 0 (a ++ b), e - b.length) else none := by
  refine ⟨?_, fun e => by unfold mant; rw [h]⟩
  by_cases h46 : (46 : UInt8) ∈ m
  · obtain ⟨c, d, rfl, hc⟩ := List.eq_append_cons_of_mem h46
    rw [cut_app d hc] at h
    simp only [Prod.mk.injEq] at h
    obtain ⟨rfl, rfl, _⟩ := h
    simp
  · rw [cut_none h46] at h
    simp only [Prod.mk.injEq] at h
    obtain ⟨rfl, rfl, _⟩ := h
    simp
theorem num40_len {n : Nat} (h : n < 10 ^ 40) : sz n ≤ 5 := digs_length_le (B := 4294967296) (by omega) (Nat.lt_trans h (by decide +kernel))
theorem can_zero : Canon [48] := ⟨by simp, fun c h => by simp at h; subst h; decide, .inl rfl⟩
end Vic
namespace Go.Proofs.YthephiihcgibjaaGreatDoor
open Go.RowKit Vic

def LitGot (s : List UInt8) (w : World) (e : Ending) (w' : World) : Prop :=
  (litBody (strip s) = none ∧ GivesNo w e w') ∨ (∃ n p, litBody (strip s) = some (n, p) ∧ n < 10 ^ 40 ∧ -140 ≤ p ∧ p ≤ 100 ∧ GivesOk (fun x w' => FracPtr w' x (qv (neg0 s) n p)) w e w')

set_option maxRecDepth 100000 in
set_option maxHeartbeats 16000000 in
theorem lit_Get_gen (w : World) (ht : TabE w) (S : List UInt8) (hl : S.length ≤ 40) (hnog : ¬ FracGood S)
    (hix : ∀ wr, Calls Tryz.prog 63 #[.string ⟨(strip S).toArray⟩, .string ⟨#[101, 69]⟩] wr (Keeps (.int .i64 (Lib.indexAny (strip S) [101, 69])) wr)) :
    Calls Tryz.prog 16 #[.string ⟨S.toArray⟩] w (LitGot S w) := by
  obtain ⟨P1, P2, P3⟩ := strip_neg S
  have hTl := strip_len S
  obtain ⟨T, hT⟩ : ∃ T, T = strip S := ⟨_, rfl⟩
  obtain ⟨neg, hneg⟩ : ∃ neg, neg = neg0 S := ⟨_, rfl⟩
  unfold LitGot
  rw [← hT] at P2 P3 hTl hix ⊢
  rw [← hneg] at P1 P2 P3 ⊢
  have CG : Hid (Calls Tryz.prog 51 #[.string ⟨S.toArray⟩] w (GivesNo w)) := by
    refine (frac_Get w S (by omega) ht.tab).mono ?_
    rintro e w' (⟨_, h⟩ | ⟨h, _⟩)
    · exact h
    · exact absurd h hnog
  have CH : Hid (∀ wr, Calls Tryz.prog 61 #[.string ⟨S.toArray⟩, .string ⟨#[45]⟩] wr (Rets (.bool neg) wr)) := Lib.hid fun wr => by
    have h := strings_HasPrefix wr S [45]
    rwa [P1] at h
  obtain ⟨Y, hY⟩ : ∃ Y, Y = (if neg then T else S) := ⟨_, rfl⟩
  have CP1 : Hid (∀ wr, Calls Tryz.prog 62 #[.string ⟨S.toArray⟩, .string ⟨#[45]⟩] wr (Rets (.string ⟨Y.toArray⟩) wr)) := Lib.hid fun wr => by
    have h := strings_TrimPrefix wr S [45]
    rwa [P2, ← hY] at h
  have CP2 : Hid (neg = false → ∀ wr, Calls Tryz.prog 62 #[.string ⟨S.toArray⟩, .string ⟨#[43]⟩] wr (Rets (.string ⟨T.toArray⟩) wr)) := Lib.hid fun hn wr => by
    have h := strings_TrimPrefix wr S [43]
    rwa [P3 hn] at h
  have HT := Lib.hid ht
  have CX : Hid (∀ (x : List UInt8) wr, x.length ≤ 40 → Below w.heap.size w wr → Calls Tryz.prog 64 #[.string ⟨x.toArray⟩] wr (ExpGot (expo x) wr)) := Lib.hid fun x wr hx h => lit_exponent_gen wr x hx (HT.out.keep h)
  have CC : Hid (∀ (M a b : List UInt8) dot wr, M.length ≤ 40 → Lib.cut M [46] = (a, b, dot) → Below w.heap.size w wr → Calls Tryz.prog 65 #[.string ⟨M.toArray⟩, .string ⟨#[46]⟩] wr (Keeps (.tuple #[.string ⟨a.toArray⟩, .string ⟨b.toArray⟩, .bool dot]) wr)) := Lib.hid fun M a b dot wr hM hc h => by
    have h1 := strings_Cut wr (HT.out.tab.keep h) M [46] (by omega)
    rwa [hc] at h1
  have CD : Hid (∀ (x : List UInt8) wr, x.length ≤ 40 → Calls Tryz.prog 66 #[.string ⟨x.toArray⟩] wr (Keeps (.bool (decide (∀ c ∈ x, isDig c = true))) wr)) := Lib.hid fun x wr hx => lit_digits wr x (by omega)
  have CTL : Hid (∀ (D : List UInt8) wr, Calls Tryz.prog 67 #[.string ⟨D.toArray⟩, .string ⟨#[48]⟩] wr (Rets (.string ⟨(Lib.trimLeftB D 48).toArray⟩) wr)) := Lib.hid fun D wr => by
    refine (Go.Proofs.Tryz.strings_TrimLeft_one ⟨D.toArray⟩ 48 (by decide) wr).mono ?_
    rintro e w' ⟨rfl, rfl⟩
    exact ⟨rfl, rfl⟩
  have CN : Hid (∀ (D : List UInt8) n wr, Canon D → D.length ≤ 40 → n = numOf 0 D → Calls Tryz.prog 50 #[.string ⟨D.toArray⟩] wr (GivesOk (fun x w' => NatPtr w' x n) wr)) := Lib.hid fun D n wr h1 h2 h3 => by
    rw [h3]; exact nat_Get_yes wr D ⟨h1, by omega⟩
  have CFN : Hid (∀ wr u v n d, NatAt wr u n → NatAt wr v d → d ≠ 0 → sz n ≤ 10000 → sz d ≤ 10000 → Calls Tryz.prog 68 #[.bool neg, u, v] wr (GivesOk (fun x w' => FracPtr w' x (quo neg n d)) wr)) := Lib.hid fun wr u v n d hu hv h0 hnl hdl => frac_New wr neg u v n d hu hv h0 (by omega) (by omega)
  have CMU : Hid (∀ wr u v n d, NatAt wr u n → NatAt wr v d → sz n ≤ 10000 → sz d ≤ 10000 → Calls Tryz.prog 69 #[u, v] wr (Gives (fun x w' => NatAt w' x (n * d)) wr)) := Lib.hid fun wr u v n d hu hv hnl hdl => nat_Mul wr u v n d hu hv (Nat.le_trans hnl (by omega)) (Nat.le_trans hdl (by omega))
  have CO : Hid (∀ wr, Calls Tryz.prog 71 #[.int .u64 1] wr (Gives (fun v w' => NatPtr w' v 1) wr)) := Lib.hid fun wr => nat_Ofp wr 1 (by omega)
  have HP2 : Hid (∀ p : Int, -140 ≤ p → p ≤ 100 → ((∃ q P : Nat, q ≤ 100 ∧ p = (q : Int) ∧ P ≠ 0 ∧ Hid (sz P ≤ 21) ∧ Hid (∀ wr, Calls Tryz.prog 70 #[.int .i64 q] wr (Gives (fun x w' => NatPtr w' x P) wr)) ∧ Hid (∀ ng n, qv ng n p = quo ng (n * P) 1)) ∨
      (∃ q P : Nat, 0 < q ∧ q ≤ 140 ∧ p = -(q : Int) ∧ P ≠ 0 ∧ Hid (sz P ≤ 21) ∧ Hid (∀ wr, Calls Tryz.prog 70 #[.int .i64 q] wr (Gives (fun x w' => NatPtr w' x P) wr)) ∧ Hid (∀ ng n, qv ng n p = quo ng n P)))) := Lib.hid (by
    intro p hp1 hp2
    rcases Int.lt_or_le p 0 with h | h
    · refine .inr ⟨(-p).toNat, 10 ^ (-p).toNat, by omega, by omega, by omega, Nat.ne_of_gt (Nat.pow_pos (by omega)), Lib.hid (pow10_len (by omega)), Lib.hid fun wr => lit_tens wr _ (by omega), Lib.hid fun ng n => ?_⟩
      unfold qv; rw [if_neg (by omega)]
    · refine .inl ⟨p.toNat, 10 ^ p.toNat, by omega, by omega, Nat.ne_of_gt (Nat.pow_pos (by omega)), Lib.hid (pow10_len (by omega)), Lib.hid fun wr => lit_tens wr _ (by omega), Lib.hid fun ng n => ?_⟩
      unfold qv; rw [if_pos h])
  -- where the e stands, if there is one
  obtain ⟨ix, M, X, V, hix, hM40, hX40, hcase⟩ : ∃ (ix : Int) (M X : List UInt8) (V : Option Int), Hid (∀ wr, Calls Tryz.prog 63 #[.string ⟨T.toArray⟩, .string ⟨#[101, 69]⟩] wr (Keeps (.int .i64 ix) wr)) ∧ M.length ≤ 40 ∧ X.length ≤ 40 ∧
      ((ix = -1 ∧ M = T ∧ Hid (litBody T = mant M 0)) ∨ (∃ k : Nat, ix = (k : Int) ∧ k + 1 ≤ T.length ∧ (⟨T.toArray⟩ : ByteArray).extract (k + 1) T.length = ⟨X.toArray⟩ ∧ (⟨T.toArray⟩ : ByteArray).extract 0 k = ⟨M.toArray⟩ ∧ Hid (litBody T = (expo X).bind (mant M)))) := by
    rcases indexAny_spec T with ⟨h1, _⟩ | ⟨m, c, x, h0, hc, hm, h1⟩
    · refine ⟨-1, T, [], none, Lib.hid fun wr => (by rw [← h1]; exact hix wr), by omega, by simp, .inl ⟨rfl, rfl, Lib.hid ?_⟩⟩
      unfold litBody; rw [h1, if_pos (by omega)]
    · have hml : m.length + 1 + x.length = T.length := by rw [h0]; simp; omega
      have e2 : T.drop (m.length + 1) = x := by rw [h0]; simp
      have e1 : T.take m.length = m := by rw [h0]; simp
      refine ⟨m.length, m, x, none, Lib.hid fun wr => (by rw [← h1]; exact hix wr), by omega, by omega, .inr ⟨m.length, rfl, by omega, ?_, ?_, Lib.hid ?_⟩⟩
      · rw [bytes_drop _ _ _ rfl, e2]
      · rw [bytes_take, e1]
      · unfold litBody
        rw [h1, if_neg (by omega), Int.toNat_natCast, e1, e2]
  have hTl' : (T.length : Int) ≤ 40 := by omega
  clear hnog P1 P2 P3 ht hT hneg
  cases neg
  case' false =>
    change Y = S at hY
    have hY2 := hY.symm
    clear hY
    subst hY2
  case' true =>
    change Y = T at hY
    have hY2 := hY.symm
    clear hY
    subst hY2
  all_goals
    go_enter Tryz.func16, Tryz.ntmps16
    go_wp2_with fail
    refine CG.out.mono ?_
    rintro e w1 ⟨rfl, hb1⟩
    go_wp2_with fail
    refine (CH.out _).mono ?_
    rintro e w' ⟨rfl, rfl⟩
    go_wp2_with fail
    refine (CP1.out _).mono ?_
    rintro e w' ⟨rfl, rfl⟩
    clear CG CH CP1
    go_wp2_with fail
  all_goals first
    | (go_at_call 62
       refine (CP2.out (by first | rfl | trivial) _).mono ?_
       rintro e w' ⟨rfl, rfl⟩
       go_wp2_with fail)
    | skip
  all_goals
    clear CP2
    go_at_call 63
    refine (hix.out _).mono ?_
    rintro e w2 ⟨rfl, hb2⟩
    have B2 := below_seq hb1 hb2
    clear hix hb1 hb2
    rcases hcase with ⟨rfl, hMT, hO⟩ | ⟨k, rfl, hkT, ex1, ex2, hO⟩
  all_goals first
    | (have hMT2 := hMT
       subst hMT2
       obtain ⟨v, hv⟩ : ∃ v : Int, v = 0 := ⟨_, rfl⟩
       have hv1 : -100 ≤ v := by omega
       have hv2 : v ≤ 100 := by omega
       have HO : Hid (litBody M = mant M v) := Lib.hid (by rw [hv]; exact hO.out)
       obtain ⟨w3, hw3⟩ : ∃ w3, w3 = w2 := ⟨_, rfl⟩
       rw [← hw3] at B2 ⊢
       have B3 := B2
       clear hO CX hw3 B2 hMT
       have HCASE0 : True := trivial
       go_wp2_with fail)
    | (have CX1 := Lib.hid (CX.out X w2 hX40 B2)
       clear CX
       go_wp2_with fail
       go_at_call 64
       refine CX1.out.mono ?_
       rintro e w3 (⟨v, hev, rfl, hb3⟩ | ⟨hev, rfl, hb3⟩))
  all_goals first
    | (clear HCASE0)
    | (obtain ⟨hv1, hv2⟩ := expo_bound hev
       have HO : Hid (litBody T = mant M v) := Lib.hid (by rw [hO.out, hev]; rfl)
       have B3 := below_seq B2 hb3
       have hkT' : (k : Int) + 1 ≤ (T.length : Int) := by omega
       clear hev hO hb3 B2 CX1 ex1
       go_wp2_with fail
       clear ex2)
    | (have HO : Hid (litBody T = none) := Lib.hid (by rw [hO.out, hev]; rfl)
       have B3 := below_seq B2 hb3
       clear hev hO hb3 B2 CX1 ex1 ex2 CC CD CTL CN CFN CMU CO HP2
       go_wp2_with fail
       go_ret2
       exact .inl ⟨HO.out, rfl, B3⟩)
  all_goals
    obtain ⟨a, b, dot, hcut⟩ : ∃ a b dot, Lib.cut M [46] = (a, b, dot) := ⟨_, _, _, rfl⟩
    obtain ⟨hab, hmant⟩ := cut_len hcut
    have hal : a.length + b.length ≤ 40 := by omega
    have CC1 := Lib.hid (CC.out M a b dot w3 hM40 hcut B3)
    have ea : (⟨a.toArray⟩ ++ ⟨b.toArray⟩ : ByteArray) = ⟨(a ++ b).toArray⟩ := bytes_app a b
    obtain ⟨D, hD⟩ : ∃ D, D = a ++ b := ⟨_, rfl⟩
    have hDl : D.length ≤ 40 := by rw [hD, List.length_append]; omega
    have hO2 := HO.out
    rw [hmant v, ← hD] at hO2
    rw [← hD] at ea
    have HOM := Lib.hid hO2
    have HDD := Lib.hid hD
    have hbl : b.length ≤ 40 := by omega
    have hall : a.length ≤ 40 := by omega
    obtain ⟨p, hp⟩ : ∃ p : Int, p = v - (b.length : Int) := ⟨_, rfl⟩
    have hp1 : -140 ≤ p := by omega
    have hp2 : p ≤ 100 := by omega
    have e5 : v - (b.length : Int) = p := hp.symm
    have e6 : IntKind.i64.wrap (v - (b.length : Int)) = p := by rw [IntKind.wrap_i64]; omega
    try (have e7 : -(b.length : Int) = p := by omega)
    try (have e8 : IntKind.i64.wrap (-(b.length : Int)) = p := by rw [IntKind.wrap_i64]; omega)
    have hno : Hid (¬ mantOk a b → litBody _ = none) := Lib.hid fun h => by
      have h1 := HOM.out
      rwa [if_neg h] at h1
    have hyes : Hid (mantOk a b → litBody _ = some (numOf 0 D, p)) := Lib.hid fun h => by
      have h1 := HOM.out
      rwa [if_pos h, e5] at h1
    clear CC hcut hmant hO2 hab hD hp HO HOM
    go_at_call 65
    refine CC1.out.mono ?_
    rintro e w4 ⟨rfl, hb4⟩
    have B4 := below_seq B3 hb4
    clear B3 hb4 CC1
    by_cases hDe : D.isEmpty = true
    · have hnone := Lib.hid (hno.out fun h => by
        have h1 := h.1
        rw [← HDD.out] at h1
        exact h1 (by simpa using hDe))
      clear hno hyes CD CTL CN CFN CMU CO HP2
      go_wp2_with fail
      go_ret2
      exact .inl ⟨hnone.out, rfl, B4⟩
    · have hDe1 : D.isEmpty = false := by simpa using hDe
      clear hDe
      by_cases hda : ∀ c ∈ a, isDig c = true
      · have CDa : Hid (∀ wr, Calls Tryz.prog 66 #[.string ⟨a.toArray⟩] wr (Keeps (.bool true) wr)) := Lib.hid fun wr => by
          have h := CD.out a wr hall
          rwa [decide_eq_true hda] at h
        have HDA := Lib.hid hda
        clear hda
        go_wp2_with fail
        refine (CDa.out _).mono ?_
        rintro e w5 ⟨rfl, hb5⟩
        have B5 := below_seq B4 hb5
        clear CDa B4 hb5
        by_cases hdb : ∀ c ∈ b, isDig c = true
        · have CDb : Hid (∀ wr, Calls Tryz.prog 66 #[.string ⟨b.toArray⟩] wr (Keeps (.bool true) wr)) := Lib.hid fun wr => by
            have h := CD.out b wr hbl
            rwa [decide_eq_true hdb] at h
          have HDB := Lib.hid hdb
          have hdD : ∀ c ∈ D, isDig c = true := by
            rw [HDD.out]
            intro c hc
            rcases List.mem_append.1 hc with h | h
            · exact HDA.out c h
            · exact hdb c h
          have hsome := Lib.hid (hyes.out ⟨(by rw [← HDD.out]; intro h; rw [h] at hDe1; cases hDe1), HDA.out, hdb⟩)
          obtain ⟨n, hn⟩ : ∃ n, n = numOf 0 D := ⟨_, rfl⟩
          rw [← hn] at hsome
          have hn40 : n < 10 ^ 40 := by rw [hn]; exact Nat.lt_of_lt_of_le (numOf_lt D hdD) (Nat.pow_le_pow_right (by omega) hDl)
          have HN40 := Lib.hid hn40
          have HSN := Lib.hid (num40_len hn40)
          obtain ⟨Z, hZ⟩ : ∃ Z, Z = Lib.trimLeftB D 48 := ⟨_, rfl⟩
          have CTL1 : Hid (∀ wr, Calls Tryz.prog 67 #[.string ⟨D.toArray⟩, .string ⟨#[48]⟩] wr (Rets (.string ⟨Z.toArray⟩) wr)) := Lib.hid fun wr => by rw [hZ]; exact CTL.out D wr
          have hzz : (Z.isEmpty = true ∧ Hid (∀ wr, Calls Tryz.prog 50 #[.string ⟨#[48]⟩] wr (GivesOk (fun x w' => NatPtr w' x n) wr))) ∨ (Z.isEmpty = false ∧ Hid (∀ wr, Calls Tryz.prog 50 #[.string ⟨Z.toArray⟩] wr (GivesOk (fun x w' => NatPtr w' x n) wr))) := by
            have h1 := trimLeft_num D
            rcases trimLeft_can D hdD with h | ⟨h, h2⟩
            · left
              rw [← hZ] at h h1
              refine ⟨by rw [h]; rfl, Lib.hid fun wr => ?_⟩
              rw [h] at h1
              exact CN.out [48] n wr can_zero (by simp) (by rw [hn, ← h1]; rfl)
            · right
              rw [← hZ] at h h1 h2
              refine ⟨?_, Lib.hid fun wr => CN.out Z n wr h (by omega) (by rw [hn, ← h1])⟩
              rcases hz : Z with _ | ⟨z, zs⟩
              · exact absurd hz h.1
              · rfl
          clear hno hyes CD CTL CN hdb hdD hn hn40 hZ
          go_wp2_with fail
          refine (CDb.out _).mono ?_
          rintro e w6 ⟨rfl, hb6⟩
          have B6 := below_seq B5 hb6
          clear CDb B5 hb6
          go_wp2_with fail
          go_at_call 67
          refine (CTL1.out _).mono ?_
          rintro e w' ⟨rfl, rfl⟩
          clear CTL1 ea
          rcases hzz with ⟨hz0, CN⟩ | ⟨hz0, CN⟩
          all_goals
            go_wp2_with fail
            refine (CN.out _).mono ?_
            rintro e w7 ⟨x7, rfl, hx7, hb7⟩
            have B7 := below_seq B6 hb7
            have HX7 := Lib.hid hx7
            clear CN B6 hb7 hx7
            rcases HP2.out p hp1 hp2 with ⟨q, P, hq, rfl, h10, HP, CTE, HQ⟩ | ⟨q, P, hq0, hq, rfl, h10, HP, CTE, HQ⟩
          all_goals
            clear HP2
            go_wp2_with fail
            go_at_call 70
            refine (CTE.out _).mono ?_
            rintro e w8 ⟨x8, rfl, hx8, hb8⟩
            have B8 := below_seq B7 hb8
          all_goals first
            | (go_wp2_with fail
               go_at_call 68
               have CN9 := Lib.hid (CFN.out w8 x7 x8 n P (HX7.out.keep hb8).at_ hx8.at_ h10 (Nat.le_trans HSN.out (by omega)) (Nat.le_trans HP.out (by omega)))
               refine CN9.out.mono ?_
               rintro e w9 ⟨x9, rfl, hx9, hb9⟩
               go_wp2_with fail
               go_ret2
               exact .inr ⟨n, _, hsome.out, HN40.out, hp1, hp2, x9, rfl, by rw [HQ.out]; exact hx9, below_seq B8 hb9⟩)
            | (go_wp2_with fail
               go_at_call 69
               have CM9 := Lib.hid (CMU.out w8 x7 x8 n P (HX7.out.keep hb8).at_ hx8.at_ (Nat.le_trans HSN.out (by omega)) (Nat.le_trans HP.out (by omega)))
               have hml : Hid (sz (n * P) ≤ 26) := Lib.hid (len_mul HSN.out HP.out (by omega))
               refine CM9.out.mono ?_
               rintro e w9 ⟨x9, rfl, hx9, hb9⟩
               have HX9 := Lib.hid hx9
               go_wp2_with fail
               refine (CO.out _).mono ?_
               rintro e w10 ⟨x10, rfl, hx10, hb10⟩
               have CN9 := Lib.hid (CFN.out w10 x9 x10 (n * P) 1 (HX9.out.keep hb10) hx10.at_ (by omega) (Nat.le_trans hml.out (by omega)) (Nat.le_trans (sz_word (by omega)) (by omega)))
               go_wp2_with fail
               refine CN9.out.mono ?_
               rintro e w11 ⟨x11, rfl, hx11, hb11⟩
               go_wp2_with fail
               go_ret2
               exact .inr ⟨n, _, hsome.out, HN40.out, hp1, hp2, x11, rfl, by rw [HQ.out]; exact hx11, below_seq B8 (below_seq hb9 (below_seq hb10 hb11))⟩)
        · have CDb : Hid (∀ wr, Calls Tryz.prog 66 #[.string ⟨b.toArray⟩] wr (Keeps (.bool false) wr)) := Lib.hid fun wr => by
            have h := CD.out b wr hbl
            rwa [decide_eq_false hdb] at h
          have hnone := Lib.hid (hno.out fun h => hdb h.2.2)
          clear hno hyes CD CTL CN CFN CMU CO HP2 hdb
          go_wp2_with fail
          refine (CDb.out _).mono ?_
          rintro e w6 ⟨rfl, hb6⟩
          have B6 := below_seq B5 hb6
          go_wp2_with fail
          go_ret2
          exact .inl ⟨hnone.out, rfl, B6⟩
      · have CDa : Hid (∀ wr, Calls Tryz.prog 66 #[.string ⟨a.toArray⟩] wr (Keeps (.bool false) wr)) := Lib.hid fun wr => by
          have h := CD.out a wr hall
          rwa [decide_eq_false hda] at h
        have hnone := Lib.hid (hno.out fun h => hda h.2.1)
        clear hno hyes CD CTL CN CFN CMU CO HP2 hda
        go_wp2_with fail
        refine (CDa.out _).mono ?_
        rintro e w5 ⟨rfl, hb5⟩
        have B5 := below_seq B4 hb5
        go_wp2_with fail
        go_ret2
        exact .inl ⟨hnone.out, rfl, B5⟩
end Go.Proofs.YthephiihcgibjaaGreatDoor
