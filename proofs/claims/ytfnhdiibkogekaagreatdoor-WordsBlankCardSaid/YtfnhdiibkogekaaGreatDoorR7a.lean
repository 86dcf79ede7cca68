/- Package victuallerref7: names, a text's lines. -/
import Derived.Test.YtfnhdiibkogekaaGreatDoorGwB
import Derived.Deep.DeepCutAuto
import Derived.Deep.CutBlock
set_option linter.unusedVariables false
set_option linter.unusedSimpArgs false
namespace Vic
open Go Go.RowKit
theorem byte7 {s : Txt} {k : Nat} (hk : k < s.length) : ∃ (hget : k < (⟨s.toArray⟩ : ByteArray).size) (b : UInt8) (x : Nat), s[k]? = some b ∧ x = b.toNat ∧ ((((⟨s.toArray⟩ : ByteArray)[k]'hget).toNat : Nat) : Int) = (x : Int) :=
  ⟨by show k < s.toArray.size; simp; exact hk, s[k], s[k].toNat, by simp [hk], rfl, rfl⟩
/-- texts of one's own -/
def encS (s : Txt) : List Value := [.string ⟨s.toArray⟩]
theorem encS_len (s : Txt) : (encS s).length = 1 := rfl
abbrev StrsOwn (w : World) (B : Nat) (v : Value) (l : List Txt) : Prop := Own w B 9 1 v l.length (l.flatMap encS)
theorem StrsOwn.in_ {w : World} {B : Nat} {v : Value} {l : List Txt} (h : StrsOwn w B v l) : StrsIn w v l :=
  OwnK.slIn encS_len h fun g i x hx hc => by have := hc 0 _ rfl; simp only [Nat.add_zero] at this; exact this
theorem StrsOwn.ty {w : World} {B : Nat} {v : Value} {l : List Txt} (h : StrsOwn w B v l) : StrsTy w v l := by
  obtain ⟨A, c, h1, h2, h3⟩ := h.in_
  refine ⟨A, c, h1, h2, fun i x hx => ?_⟩
  obtain ⟨g, o, h4, h5⟩ := h3 i x hx
  refine ⟨g, o, h4, ?_, h5⟩
  obtain ⟨cur, hc⟩ := h.typed (g := g) (by rw [h1, h4]; unfold Value.ownBlock; rfl)
  exact ⟨cur, _, hc⟩
theorem encS_app (l : List Txt) (s : Txt) : l.flatMap encS ++ [Value.string ⟨s.toArray⟩] = (l ++ [s]).flatMap encS := by simp [encS]
theorem slice_mid (l : List UInt8) (a k : Nat) : (⟨l.toArray⟩ : ByteArray).extract a k = ⟨((l.drop a).take (k - a)).toArray⟩ := by
  rw [Lib.extract_mk]
/-- the lines of what is left -/
theorem spl_at {t : Txt} {a k : Nat} (hk : t[k]? = some 10) (hak : a ≤ k) (hn : ∀ (j : Nat) (c : UInt8), a ≤ j → j < k → t[j]? = some c → c ≠ 10) : spl (t.drop a) = (t.drop a).take (k - a) :: spl (t.drop (k + 1)) := by
  have hlt := (List.getElem?_eq_some_iff.1 hk).1
  have e : t.drop a = (t.drop a).take (k - a) ++ 10 :: t.drop (k + 1) := by
    have h1 : (t.drop a).drop (k - a) = t.drop k := by rw [List.drop_drop]; congr 1; omega
    have h2 : t.drop k = 10 :: t.drop (k + 1) := by
      rw [List.drop_eq_getElem_cons hlt]
      congr 1
      exact (List.getElem?_eq_some_iff.1 hk).2
    rw [← h2, ← h1, List.take_append_drop]
  have h3 : (10 : UInt8) ∉ (t.drop a).take (k - a) := fun h => by
    obtain ⟨j, hj⟩ := List.getElem?_of_mem h
    rw [List.getElem?_take] at hj
    split at hj
    · rw [List.getElem?_drop] at hj
      exact hn (a + j) 10 (by omega) (by omega) hj rfl
    · cases hj
  have := spl_app (t.drop (k + 1)) h3
  rwa [← e] at this
theorem spl_end {t : Txt} {a : Nat} (ha : a < t.length) (hn : ∀ (j : Nat) (c : UInt8), a ≤ j → j < t.length → t[j]? = some c → c ≠ 10) : spl (t.drop a) = [t.drop a] := by
  refine spl_one (fun h => ?_) (fun h => ?_)
  · obtain ⟨j, hj⟩ := List.getElem?_of_mem h
    rw [List.getElem?_drop] at hj
    exact hn (a + j) 10 (by omega) ((List.getElem?_eq_some_iff.1 hj).1) hj rfl
  · have := congrArg List.length h
    simp at this; omega
end Vic
namespace Go.Proofs.YtfnhdiibkogekaaGreatDoor
open Go.RowKit Vic
theorem info_txt0 : (Tryz.prog.info? 9).map (fun i => (i.zero, i.size, i.bytes)) = some (some (.string ⟨#[]⟩), 1, 16) := by kernel_rfl
theorem info_txt : ∃ i : TypeInfo, Tryz.prog.info? 9 = some i ∧ i.zero = some (.string ⟨#[]⟩) ∧ i.size = 1 ∧ i.bytes = 16 := by
  have h := info_txt0
  cases hi : Tryz.prog.info? 9 with
  | none => rw [hi] at h; simp at h
  | some i => rw [hi] at h; simp at h; exact ⟨i, rfl, h.1, h.2.1, h.2.2⟩

set_option maxRecDepth 100000 in
set_option maxHeartbeats 2000000 in
theorem ref7_Name (w : World) (s : Txt) (hs : s.length ≤ 140737488355328) : Calls Tryz.prog 12 #[.string ⟨s.toArray⟩] w (Rets (.bool (nameB s)) w) := by
  have HM : Hid (∀ (j : Nat) (y : UInt8), j < 0 → s[j]? = some y → badC y = false) := fun j y h => by omega
  have HN := Lib.hid (show nameB s = (!s.any badC && decide (1 ≤ s.length) && decide (s.length ≤ 20)) from rfl)
  generalize nameB s = r at *
  go_enter Tryz.func12, Tryz.ntmps12
  go_wp2_with fail
  go_loop [3] (fun t => ∃ k : Nat, t = .int .i64 k ∧ k ≤ s.length ∧ Hid (∀ (j : Nat) (y : UInt8), j < k → s[j]? = some y → badC y = false)) (fun t => s.length - (intOf t).toNat)
  case atStart => exact ⟨0, rfl, Nat.zero_le _, HM⟩
  case round =>
    obtain ⟨k, rfl, hk, hz⟩ := hrel
    by_cases hlt : k < s.length
    · obtain ⟨hget, b, x, hsk, hxe, hx⟩ := byte7 hlt
      have HSK := Lib.hid hsk
      have HX := Lib.hid hxe
      have HB : Hid (x < 33 ∨ 126 < x → r = false) := Lib.hid fun h => by
        have hb : badC b = true := by
          unfold badC
          simp only [Bool.or_eq_true, decide_eq_true_eq, UInt8.le_iff_toNat_le, UInt8.lt_iff_toNat_lt]
          have e1 : (32 : UInt8).toNat = 32 := rfl
          have e2 : (126 : UInt8).toNat = 126 := rfl
          omega
        have : s.any badC = true := List.any_eq_true.2 ⟨b, List.mem_of_getElem? hsk, hb⟩
        rw [HN.out, this]; rfl
      have HG : Hid (¬ (x < 33 ∨ 126 < x) → ∀ (j : Nat) (y : UInt8), j < k + 1 → s[j]? = some y → badC y = false) := Lib.hid fun h j y hj hy => by
        rcases Nat.lt_or_eq_of_le (Nat.le_of_lt_succ hj) with h1 | h1
        · exact hz.out j y h1 hy
        · subst h1
          rw [hsk] at hy; cases hy
          unfold badC
          simp only [Bool.or_eq_false_iff, decide_eq_false_iff_not, UInt8.le_iff_toNat_le, UInt8.lt_iff_toNat_lt]
          have e1 : (32 : UInt8).toNat = 32 := rfl
          have e2 : (126 : UInt8).toNat = 126 := rfl
          omega
      clear hsk hxe
      by_cases h1 : x < 33
      · have HE := Lib.hid (HB.out (.inl h1))
        clear HB HG
        go_wp2_with fail
        go_ret
        exact ⟨ret_bool HE.out.symm, rfl⟩
      · by_cases h2 : 126 < x
        · have HE := Lib.hid (HB.out (.inr h2))
          clear HB HG
          go_wp2_with fail
          go_ret
          exact ⟨ret_bool HE.out.symm, rfl⟩
        · have HE := Lib.hid (HG.out (by omega))
          clear HB HG
          go_wp2_with fail
          go_round
          case rel => exact ⟨k + 1, rfl, by omega, HE⟩
          case measure => simp [intOf]; omega
    · obtain rfl : k = s.length := by omega
      have HA : Hid (r = (decide (1 ≤ s.length) && decide (s.length ≤ 20))) := Lib.hid (by
        have : s.any badC = false := List.any_eq_false.2 fun y hy => by
          obtain ⟨j, hj⟩ := List.getElem?_of_mem hy
          have := hz.out j y (List.getElem?_eq_some_iff.1 hj).1 hj
          simp [this]
        rw [HN.out, this]; rfl)
      by_cases h4 : 1 ≤ s.length
      · by_cases h5 : s.length ≤ 20
        · go_wp2_with fail
          go_ret
          exact ⟨ret_bool (by rw [HA.out]; simp [h4, h5]; try omega), rfl⟩
        · go_wp2_with fail
          go_ret
          exact ⟨ret_bool (by rw [HA.out]; simp [h4, h5]; try omega), rfl⟩
      · go_wp2_with fail
        go_ret
        exact ⟨ret_bool (by rw [HA.out]; simp [h4]; try omega), rfl⟩

set_option maxRecDepth 100000 in
set_option maxHeartbeats 4000000 in
theorem ref7_lines (w : World) (t : Txt) (hs : t.length ≤ 1000000) : Calls Tryz.prog 32 #[.string ⟨t.toArray⟩] w (Gives (fun v w' => StrsIn w' v (spl t)) w) := by
  obtain ⟨i1, hi1, hz1, hsz1, hby1⟩ := info_txt
  unfold Gives
  have HR : Hid (spl t = [] ++ spl (t.drop 0)) := rfl
  generalize spl t = R at *
  go_enter Tryz.func32, Tryz.ntmps32
  go_wp2_with fail
  go_loopw [5, 3, 4] (fun iv v av wr => ∃ (k a : Nat) (L : List Txt), iv = .int .i64 k ∧ av = .int .i64 a ∧ a ≤ k ∧ k ≤ t.length ∧ L.length ≤ k ∧ Hid (R = L ++ spl (t.drop a)) ∧ Hid (∀ (j : Nat) (c : UInt8), a ≤ j → j < k → t[j]? = some c → c ≠ 10) ∧ Hid (StrsOwn wr w.heap.size v L) ∧ Below w.heap.size w wr) (fun iv _ _ _ => t.length - (intOf iv).toNat)
  case atStart => exact ⟨0, 0, [], rfl, rfl, Nat.le_refl _, Nat.zero_le _, Nat.le_refl _, HR, Lib.hid (fun j c _ h => by omega), Lib.hid (OwnK.nil_ _ _ _ _ _), Below.refl _ _⟩
  case round =>
    obtain ⟨k, a, L, rfl, rfl, hak, hk, hL, hR, hn, hown, hbr⟩ := hrel
    by_cases hlt : k < t.length
    · obtain ⟨hget, b, x, hsk, hxe, hx⟩ := byte7 hlt
      by_cases hx10 : x = 10
      · have hb10 : b = 10 := UInt8.toNat_inj.1 (by have : (10 : UInt8).toNat = 10 := rfl; omega)
        subst hb10
        have hR2 := hR.out
        rw [spl_at hsk hak hn.out] at hR2
        have HR2 := Lib.hid hR2
        have hsl := slice_mid t a k
        have hxc : ((x : Int) == 10) = true := by rw [beq_iff_eq]; omega
        generalize (t.drop a).take (k - a) = p at *
        have hown1 := Lib.hid (hown.out.alloc (.cells #[.string ⟨p.toArray⟩] 9))
        have hk1 : w.heap.size ≤ (wr.alloc (.cells #[.string ⟨p.toArray⟩] 9)).heap.size := Nat.le_trans hbr.size (by simp)
        have hnew1 : Hid (∀ (j : Nat) u, [Value.string ⟨p.toArray⟩][j]? = some u → (wr.alloc (.cells #[.string ⟨p.toArray⟩] 9)).cell? ((⟨wr.heap.size, 0, none⟩ : Addr).add j) = some u) := Lib.hid fun j u hj => by
          rcases j with _ | j
          · cases hj
            exact (Row.new _ _ _).cell 0
          · simp at hj
        clear hR2 hsk hxe hR hx10
        go_wp2_with (at_builtin; refine wpList_append_ownK (Kd := fun _ => True) rfl (.tmp 16) (.tmp 21) 24 rfl w.heap.size 9 i1 _ 1 Tryz.underlying24 hi1 hz1 hsz1 rfl (by omega) _ L.length _ rfl hown1.out ⟨wr.heap.size, 0, none⟩ 1 1 [Value.string ⟨p.toArray⟩] rfl (by simp) hnew1.out (by simp [Value.oneCell']) (by simp) (by simp) (by omega) (by unfold maxLen; omega) (by rw [hby1]; omega) hk1 ?_; intro v6 w6 hown6 hgr6 hloc6; refine Hid.out ?_)
        have hal : Below wr.heap.size wr (wr.alloc (.cells #[.string ⟨p.toArray⟩] 9)) := (Below.refl _ _).alloc (Nat.le_refl _) _
        have hb6 := (hbr.trans (hal.mono hbr.size)).grown hgr6 hk1 fun j hj => (hown.out.lt hj).1
        rw [encS_app] at hown6
        have HO6 : Hid (StrsOwn w6 w.heap.size v6 (L ++ [p])) := Lib.hid (by unfold StrsOwn; rw [List.length_append, List.length_singleton]; exact hown6)
        refine Lib.hid ?_
        clear hown6 hown hown1 hgr6 hloc6 hnew1
        go_wp2_with fail
        go_roundw
        case rel => exact ⟨k + 1, k + 1, L ++ [p], by go_num, by go_num, Nat.le_refl _, by omega, by simp; omega, by have := HR2.out; exact Lib.hid (by rw [this]; simp), Lib.hid (fun j c _ h => by omega), HO6, hb6⟩
        case measure => simp [intOf]; omega
      · have hxc : ((x : Int) == 10) = false := by rw [beq_eq_false_iff_ne]; omega
        have HN : Hid (∀ (j : Nat) (c : UInt8), a ≤ j → j < k + 1 → t[j]? = some c → c ≠ 10) := Lib.hid fun j c h1 h2 h3 => by
          rcases Nat.lt_or_eq_of_le (Nat.le_of_lt_succ h2) with h4 | h4
          · exact hn.out j c h1 h4 h3
          · subst h4
            rw [hsk] at h3; cases h3
            intro e; subst e
            exact hx10 (by rw [hxe]; rfl)
        clear hsk hxe hn hx10
        go_wp2_with fail
        go_roundw
        case rel => exact ⟨k + 1, a, L, by go_num, rfl, by omega, by omega, by omega, hR, HN, hown, hbr⟩
        case measure => simp [intOf]; omega
    · obtain rfl : k = t.length := by omega
      by_cases ha : a < t.length
      · have hR2 := hR.out
        rw [spl_end ha hn.out] at hR2
        have HR2 := Lib.hid hR2
        have hsl : (⟨t.toArray⟩ : ByteArray).extract a t.length = ⟨(t.drop a).toArray⟩ := by
          rw [slice_mid, List.take_of_length_le (by simp)]
        generalize t.drop a = p at *
        have hown1 := Lib.hid (hown.out.alloc (.cells #[.string ⟨p.toArray⟩] 9))
        have hk1 : w.heap.size ≤ (wr.alloc (.cells #[.string ⟨p.toArray⟩] 9)).heap.size := Nat.le_trans hbr.size (by simp)
        have hnew1 : Hid (∀ (j : Nat) u, [Value.string ⟨p.toArray⟩][j]? = some u → (wr.alloc (.cells #[.string ⟨p.toArray⟩] 9)).cell? ((⟨wr.heap.size, 0, none⟩ : Addr).add j) = some u) := Lib.hid fun j u hj => by
          rcases j with _ | j
          · cases hj
            exact (Row.new _ _ _).cell 0
          · simp at hj
        clear hR2 hR hn
        go_wp2_with (at_builtin; refine wpList_append_ownK (Kd := fun _ => True) rfl (.tmp 29) (.tmp 33) 24 rfl w.heap.size 9 i1 _ 1 Tryz.underlying24 hi1 hz1 hsz1 rfl (by omega) _ L.length _ rfl hown1.out ⟨wr.heap.size, 0, none⟩ 1 1 [Value.string ⟨p.toArray⟩] rfl (by simp) hnew1.out (by simp [Value.oneCell']) (by simp) (by simp) (by omega) (by unfold maxLen; omega) (by rw [hby1]; omega) hk1 ?_; intro v6 w6 hown6 hgr6 hloc6; refine Hid.out ?_)
        have hal : Below wr.heap.size wr (wr.alloc (.cells #[.string ⟨p.toArray⟩] 9)) := (Below.refl _ _).alloc (Nat.le_refl _) _
        have hb6 := (hbr.trans (hal.mono hbr.size)).grown hgr6 hk1 fun j hj => (hown.out.lt hj).1
        rw [encS_app] at hown6
        have HO6 : Hid (StrsOwn w6 w.heap.size v6 (L ++ [p])) := Lib.hid (by unfold StrsOwn; rw [List.length_append, List.length_singleton]; exact hown6)
        refine Lib.hid ?_
        clear hown6 hown hown1 hgr6 hloc6 hnew1
        go_wp2_with fail
        go_ret
        exact ⟨v6, rfl, by rw [HR2.out]; exact HO6.out.in_, hb6⟩
      · have hR2 := hR.out
        have e0 : t.drop a = [] := List.drop_eq_nil_of_le (by omega)
        rw [e0] at hR2
        have HR2 : Hid (R = L) := Lib.hid (by rw [hR2]; simp [spl])
        clear hR2 e0 hR
        go_wp2_with fail
        go_ret
        exact ⟨_, rfl, by rw [HR2.out]; exact hown.out.in_, hbr⟩
end Go.Proofs.YtfnhdiibkogekaaGreatDoor
