/- Package words: names, what is wrong with a line. -/
import Derived.Test.YtfnhdiibkogekaaGreatDoorGwA
import Derived.Test.YtfnhdiibkogekaaGreatDoorGwB
import Derived.Lib.ConvBytes
import Derived.Deep.QuietTactic
import Derived.BigQuiet
import Derived.Deep.DeepCutAuto
import Derived.Deep.CutBlock
import Derived.Deep.RegionHeld3
set_option linter.unusedVariables false
set_option linter.unusedSimpArgs false
section
namespace Vic
open Go Go.RowKit
def BytesAt (w : World) (b : Nat) (l : Txt) : Prop := ∀ (i : Nat) (x : UInt8), l[i]? = some x → w.cell? ⟨b, i, none⟩ = some (.int .u8 (x.toNat : Int))
/-- where the first such stands; -1: nowhere -/
def anyIdx {α : Type} (p : α → Bool) (l : List α) : Int := match l.findIdx? p with | some i => (i : Nat) | none => -1
theorem anyIdx_hit {α : Type} {p : α → Bool} {l : List α} {k : Nat} {x : α} (h : l[k]? = some x) (hp : p x = true) (hn : ∀ (j : Nat) (y : α), j < k → l[j]? = some y → p y = false) : anyIdx p l = (k : Nat) := by
  unfold anyIdx
  have : l.findIdx? p = some k := by
    obtain ⟨hk, hx⟩ := List.getElem?_eq_some_iff.1 h
    rw [List.findIdx?_eq_some_iff_getElem]
    refine ⟨hk, by rw [hx]; exact hp, fun j hj => ?_⟩
    have := hn j l[j] hj (by simp)
    simp [this]
  rw [this]
theorem anyIdx_miss {α : Type} {p : α → Bool} {l : List α} (hn : ∀ (j : Nat) (y : α), l[j]? = some y → p y = false) : anyIdx p l = -1 := by
  unfold anyIdx
  have : l.findIdx? p = none := by
    rw [List.findIdx?_eq_none_iff]
    intro x hx
    obtain ⟨j, hj⟩ := List.getElem?_of_mem hx
    exact hn j x hj
  rw [this]
theorem anyIdx_any {α : Type} (p : α → Bool) (l : List α) : decide (0 ≤ anyIdx p l) = l.any p := by
  unfold anyIdx
  cases h : l.findIdx? p with
  | none =>
    rw [List.findIdx?_eq_none_iff] at h
    have : l.any p = false := List.any_eq_false.2 fun x hx => by simpa using h x hx
    rw [this]; rfl
  | some i =>
    obtain ⟨hi, hp, _⟩ := List.findIdx?_eq_some_iff_getElem.1 h
    have : l.any p = true := List.any_eq_true.2 ⟨_, List.getElem_mem hi, hp⟩
    rw [this]
    simp
end Vic
namespace Go.Proofs.YtfnhdiibkogekaaGreatDoor
open Go.Shelf Go.RowKit Vic

set_option maxRecDepth 100000 in
set_option maxHeartbeats 2000000 in
theorem idxf_byte (w : World) (b c : Nat) (l : Txt) (p : UInt8 → Bool) (g : Nat) (hl : l.length ≤ c) (hm : c ≤ maxLen) (hc : BytesAt w b l) (eg : ∀ args w, (callFunc g args).run Tryz.prog w = .ok (.enter g args) w) (H : ∀ x wr, Calls Tryz.prog g #[.int .u8 (UInt8.toNat x : Int)] wr (Rets (.bool (p x)) wr)) :
    Calls Tryz.prog 85 #[.slice (some ⟨b, 0, none⟩) l.length c, .func (.func g) #[] #[]] w (Rets (.int .i64 (anyIdx p l)) w) := by
  unfold maxLen at hm
  have HC := Lib.hid hc
  have HH := Lib.hid H
  have HM : Hid (∀ (j : Nat) (y : UInt8), j < 0 → l[j]? = some y → p y = false) := fun j y h => by omega
  clear hc H
  go_enter Tryz.func85, Tryz.ntmps85
  go_wp2_with fail
  go_loop [8] (fun t => ∃ k : Nat, t = .int .i64 k ∧ k ≤ l.length ∧ Hid (∀ (j : Nat) (y : UInt8), j < k → l[j]? = some y → p y = false)) (fun t => l.length - (intOf t).toNat)
  case atStart => exact ⟨0, rfl, Nat.zero_le _, HM⟩
  case round =>
    obtain ⟨k, rfl, hk, hz⟩ := hrel
    by_cases hlt : k < l.length
    · obtain ⟨x, hx⟩ : ∃ x, l[k]? = some x := ⟨l[k], by simp [hlt]⟩
      have hcell := HC.out k x hx
      have CC := Lib.hid (HH.out x)
      have HX := Lib.hid hx
      clear hx
      by_cases hp : p x = true
      · rw [hp] at CC
        have HP := Lib.hid hp
        clear hp
        go_wp2_with fail
        refine (CC.out _).mono ?_
        rintro e w1 ⟨rfl, rfl⟩
        go_wp2_with fail
        go_ret
        exact ⟨ret_int (anyIdx_hit HX.out HP.out hz.out).symm, rfl⟩
      · have hp' : p x = false := by simpa using hp
        rw [hp'] at CC
        have hz2 : Hid (∀ (j : Nat) (y : UInt8), j < k + 1 → l[j]? = some y → p y = false) := fun j y hj hy => by
          rcases Nat.lt_or_eq_of_le (Nat.le_of_lt_succ hj) with h1 | h1
          · exact hz.out j y h1 hy
          · subst h1
            rw [HX.out] at hy
            cases hy
            exact hp'
        clear hp hp'
        go_wp2_with fail
        refine (CC.out _).mono ?_
        rintro e w1 ⟨rfl, rfl⟩
        go_wp2_with fail
        go_round
        case rel => exact ⟨k + 1, rfl, by omega, hz2⟩
        case measure => simp [intOf]; omega
    · obtain rfl : k = l.length := by omega
      have hm2 : Hid (anyIdx p l = -1) := anyIdx_miss fun j y hy => hz.out j y (List.getElem?_eq_some_iff.1 hy).1 hy
      go_wp2_with fail
      go_ret
      exact ⟨ret_int hm2.out.symm, rfl⟩
theorem conf_byte (w : World) (b c : Nat) (l : Txt) (p : UInt8 → Bool) (g : Nat) (hl : l.length ≤ c) (hm : c ≤ maxLen) (hc : BytesAt w b l) (eg : ∀ args w, (callFunc g args).run Tryz.prog w = .ok (.enter g args) w) (H : ∀ x wr, Calls Tryz.prog g #[.int .u8 (UInt8.toNat x : Int)] wr (Rets (.bool (p x)) wr)) :
    Calls Tryz.prog 33 #[.slice (some ⟨b, 0, none⟩) l.length c, .func (.func g) #[] #[]] w (Rets (.bool (l.any p)) w) := by
  have CI := Lib.hid (idxf_byte w b c l p g hl hm hc eg H)
  rw [← anyIdx_any]
  generalize anyIdx p l = i at *
  clear hc H eg
  go_enter Tryz.func33, Tryz.ntmps33
  go_wp2_with fail
  refine CI.out.mono ?_
  rintro e w1 ⟨rfl, rfl⟩
  go_wp2_with fail
  go_ret
  exact ⟨rfl, rfl⟩

theorem name_c1 (x : UInt8) (w : World) : Calls Tryz.prog 34 #[.int .u8 (UInt8.toNat x : Int)] w (Rets (.bool (badC x)) w) := by
  have hx := x.toNat_lt
  have e : badC x = (decide ((x.toNat : Int) ≤ 32) || decide (126 < (x.toNat : Int))) := by
    unfold badC
    rw [Bool.eq_iff_iff]
    simp [UInt8.le_iff_toNat_le, UInt8.lt_iff_toNat_lt]
    omega
  rw [e]
  generalize x.toNat = n at *
  by_cases h1 : n ≤ 32
  · go_enter Tryz.func34, Tryz.ntmps34
    go_wp2_with fail
    go_ret
    exact ⟨ret_bool (by first | (simp; done) | (simp; omega)), rfl⟩
  · by_cases h2 : 126 < n
    · go_enter Tryz.func34, Tryz.ntmps34
      go_wp2_with fail
      go_ret
      exact ⟨ret_bool (by first | (simp; done) | (simp; omega)), rfl⟩
    · go_enter Tryz.func34, Tryz.ntmps34
      go_wp2_with fail
      go_ret
      exact ⟨ret_bool (by first | (simp; done) | (simp; omega)), rfl⟩
theorem look_c1 (x : UInt8) (w : World) : Calls Tryz.prog 84 #[.int .u8 (UInt8.toNat x : Int)] w (Rets (.bool (badL x)) w) := by
  have hx := x.toNat_lt
  have e : badL x = (decide (126 < (x.toNat : Int)) || (decide ((x.toNat : Int) < 32) && !decide ((x.toNat : Int) = 9))) := by
    unfold badL
    rw [Bool.eq_iff_iff]
    simp [UInt8.lt_iff_toNat_lt, ← UInt8.toNat_inj]
    omega
  rw [e]
  generalize x.toNat = n at *
  by_cases h1 : 126 < n
  · go_enter Tryz.func84, Tryz.ntmps84
    go_wp2_with fail
    go_ret
    exact ⟨ret_bool (by first | (simp; done) | (simp; omega)), rfl⟩
  · by_cases h2 : n < 32
    · by_cases h3 : n = 9
      · subst h3
        go_enter Tryz.func84, Tryz.ntmps84
        go_wp2_with fail
        go_ret
        exact ⟨rfl, rfl⟩
      · have h4 : ((n : Int) == 9) = false := by rw [beq_eq_false_iff_ne]; omega
        go_enter Tryz.func84, Tryz.ntmps84
        go_wp2_with fail
        go_ret
        have h5 : ((n : Int) != 9) = true := by rw [bne, h4]; rfl
        exact ⟨ret_bool (by rw [h5, decide_eq_true (show (n : Int) < 32 by omega), decide_eq_false (show ¬ (n : Int) = 9 by omega)]; simp), rfl⟩
    · go_enter Tryz.func84, Tryz.ntmps84
      go_wp2_with fail
      go_ret
      exact ⟨ret_bool (by first | (simp; done) | (simp; omega)), rfl⟩
/-- the bytes of a text, laid anew -/
theorem bytes_of (w : World) (s : Txt) (hs : s.length ≤ 140737488355328) : ∃ c w1, (convert 9 41 (.string ⟨s.toArray⟩)).run Tryz.prog w = .ok (.slice (some ⟨w.heap.size, 0, none⟩) s.length c) w1 ∧ s.length ≤ c ∧ c ≤ maxLen ∧ BytesAt w1 w.heap.size s ∧ Below w.heap.size w w1 := by
  have hsz : (⟨s.toArray⟩ : ByteArray).size = s.length := by show s.toArray.size = _; simp
  have h := Lib.run_convert_string_bytes (P := Tryz.prog) w 9 41 5 ⟨s.toArray⟩ (u := .string) (by kernel_rfl) (by kernel_rfl) (by kernel_rfl)
  rw [hsz] at h
  refine ⟨_, _, h, grownCap_ge _ _ _ _, grownCap_le_maxLen _ _ _ _ (by unfold maxLen; omega), fun i x hx => ?_, Lib.bytesWorld_below _ _ _⟩
  have hi := (List.getElem?_eq_some_iff.1 hx).1
  rw [Lib.bytesWorld_cell w _ ⟨s.toArray⟩ i (by rw [hsz]; exact hi)]
  simp [List.getD, hx]
theorem enter_name : ∀ args w, (callFunc 34 args).run Tryz.prog w = .ok (.enter 34 args) w := fun _ _ => by kernel_rfl
theorem enter_look : ∀ args w, (callFunc 84 args).run Tryz.prog w = .ok (.enter 84 args) w := fun _ _ => by kernel_rfl
set_option maxRecDepth 100000 in
theorem words_Name (w : World) (s : Txt) (hs : s.length ≤ 140737488355328) : Calls Tryz.prog 11 #[.string ⟨s.toArray⟩] w (Keeps (.bool (nameB s)) w) := by
  obtain ⟨c, w1, hcv, h1, h2, h3, hb⟩ := bytes_of w s hs
  have CF := Lib.hid (conf_byte w1 w.heap.size c s badC 34 h1 h2 h3 enter_name fun x wr => name_c1 x wr)
  have hn : nameB s = (!s.any badC && decide (1 ≤ s.length) && decide (s.length ≤ 20)) := rfl
  rw [hn]
  have hsz : (⟨s.toArray⟩ : ByteArray).size = s.length := by show s.toArray.size = _; simp
  have HZ := Lib.hid hsz
  generalize s.any badC = bad at *
  clear hn h1 h2 h3 hsz hs
  go_enter Tryz.func11, Tryz.ntmps11
  go_wp2_with fail
  refine CF.out.mono ?_
  rintro e w2 ⟨rfl, rfl⟩
  cases bad
  · by_cases h4 : 1 ≤ s.length
    · by_cases h5 : s.length ≤ 20
      · go_wp2_with fail
        go_ret
        exact ⟨ret_bool (by simp [h4, h5]; try omega), hb⟩
      · go_wp2_with fail
        go_ret
        exact ⟨ret_bool (by simp [h4, h5]; try omega), hb⟩
    · go_wp2_with fail
      go_ret
      exact ⟨ret_bool (by simp [h4]; try omega), hb⟩
  · go_wp2_with fail
    go_ret
    exact ⟨rfl, hb⟩
set_option maxRecDepth 100000 in
theorem words_look (w : World) (s : Txt) (hs : s.length ≤ 140737488355328) : Calls Tryz.prog 29 #[.string ⟨s.toArray⟩] w (Keeps (.int .i64 (lookB s)) w) := by
  have hsz : (⟨s.toArray⟩ : ByteArray).size = s.length := by show s.toArray.size = _; simp
  have CT := Lib.hid (strings_TrimSuffix w s [13] (by omega))
  have htl : (trimCr s).length ≤ s.length := by
    unfold trimCr Lib.trimSuffix
    split
    · simp
    · exact Nat.le_refl _
  obtain ⟨c, w1, hcv, h1, h2, h3, hb⟩ := bytes_of w (trimCr s) (by omega)
  have CF := Lib.hid (conf_byte w1 w.heap.size c (trimCr s) badL 84 h1 h2 h3 enter_look fun x wr => look_c1 x wr)
  have HL : Hid (lookB s = if 200 < s.length then 6 else if (trimCr s).any badL then 1 else 0) := rfl
  rw [show Lib.trimSuffix s [13] = trimCr s from rfl] at CT
  generalize (trimCr s).any badL = bad at *
  generalize lookB s = r at *
  generalize trimCr s = t at *
  clear h1 h2 h3 hs htl
  by_cases h4 : 200 < s.length
  · have HR : Hid (r = 6) := by rw [HL.out, if_pos h4]; exact rfl
    clear HL hsz
    go_enter Tryz.func29, Tryz.ntmps29
    go_wp2_with fail
    go_ret
    exact ⟨ret_int HR.out.symm, Below.refl _ _⟩
  · have HR : Hid (r = if bad = true then 1 else 0) := by rw [HL.out, if_neg h4]; exact rfl
    clear HL
    go_enter Tryz.func29, Tryz.ntmps29
    go_wp2_with fail
    refine CT.out.mono ?_
    rintro e w2 ⟨rfl, rfl⟩
    go_wp2_with fail
    refine CF.out.mono ?_
    rintro e w2 ⟨rfl, rfl⟩
    cases bad
    · go_wp2_with fail
      go_ret
      exact ⟨ret_int (by rw [HR.out]; rfl), hb⟩
    · go_wp2_with fail
      go_ret
      exact ⟨ret_int (by rw [HR.out]; rfl), hb⟩
end Go.Proofs.YtfnhdiibkogekaaGreatDoor
end
section
namespace Vic
open Go Go.RowKit
/-- a line, and where its words lie -/
abbrev LineV := LineM × Value
def encLine (x : LineV) : List Value := [.int .i64 (x.1.no : Nat), .bool x.1.head, x.2]
theorem encLine_len (x : LineV) : (encLine x).length = 3 := rfl
/-- the lines that are laid so far -/
structure LinesOwn (w : World) (B : Nat) (v : Value) (lvs : List LineV) : Prop where
  own : Own w B 33 3 v lvs.length (lvs.flatMap encLine)
  words : ∀ x ∈ lvs, StrsTy w x.2 x.1.words
theorem LinesOwn.keep {w w' : World} {B : Nat} {v : Value} {lvs : List LineV} (h : LinesOwn w B v lvs) (hb : Below w.heap.size w w') : LinesOwn w' B v lvs := ⟨h.own.keep hb, fun x hx => (h.words x hx).keep StrTy.firm hb⟩
theorem LinesOwn.in_ {w : World} {B : Nat} {v : Value} {lvs : List LineV} (h : LinesOwn w B v lvs) : LinesIn w v (lvs.map (·.1)) := by
  have hs : SlIn (fun w g o (x : LineV) => LineR w g o x.1) 3 w v lvs := h.own.slIn encLine_len fun g i x hx hc => by
    refine ⟨x.2, ?_, ?_, ?_, (h.words x (List.mem_of_getElem? hx)).strs⟩
    · have := hc 0 _ rfl; simpa using this
    · exact hc 1 _ rfl
    · exact hc 2 _ rfl
  obtain ⟨A, c, h1, h2, h3⟩ := hs
  refine ⟨A, c, by simpa using h1, by simpa using h2, fun i x hx => ?_⟩
  rw [List.getElem?_map] at hx
  cases hv : lvs[i]? with
  | none => rw [hv] at hx; simp at hx
  | some y =>
    rw [hv] at hx
    simp only [Option.map_some, Option.some.injEq] at hx
    subst hx
    exact h3 i y hv
/-- a line more -/
theorem LinesOwn.add {w w' : World} {B : Nat} {v v' : Value} {lvs : List LineV} (h : LinesOwn w B v lvs) (x : LineV) (hx : StrsTy w x.2 x.1.words) (ho : Own w' B 33 3 v' (lvs.length + 1) (lvs.flatMap encLine ++ encLine x)) (hg : w.grownBy w' v.ownBlock) : LinesOwn w' B v' (lvs ++ [x]) := by
  have hs : ∀ (sv : Value) (l : List Txt), StrsTy w sv l → StrsTy w' sv l := fun sv l hl => hl.imp fun g o s _ ⟨⟨cur, fr, hb⟩, k⟩ => by
    have : w'.heap[g]? = w.heap[g]? := hg.block g (block_lt k) fun e => by
      obtain ⟨cur', hc'⟩ := h.own.typed e.symm
      rw [hb] at hc'
      injection hc' with hc'
      injection hc' with _ h2 _
      exact absurd h2 (by decide)
    exact ⟨⟨cur, fr, this.trans hb⟩, by show w'.cell? _ = _; simp only [World.cell?, this]; exact k⟩
  refine ⟨by simpa using ho, fun y hy => ?_⟩
  rcases List.mem_append.1 hy with hy | hy
  · exact hs _ _ (h.words y hy)
  · simp at hy; subst hy; exact hs _ _ hx
/-- what words.Get gives -/
def WordsGot (t : Txt) (w : World) (e : Ending) (w' : World) : Prop := ∃ v, e = .returned (.tuple #[v, .int .i64 ((wordsGet t).2.1 : Nat), .int .i64 (wordsGet t).2.2]) ∧ LinesIn w' v (wordsGet t).1 ∧ Below w.heap.size w w'
theorem look_ascii {s : Txt} (h : lookB s = 0) : ∀ c ∈ s, c.toNat < 128 := by
  intro c hc
  unfold lookB at h
  split at h
  · cases h
  · split at h
    · cases h
    · rename_i h2
      have h3 : (trimCr s).any badL = false := by simpa using h2
      by_cases h13 : c = 13
      · subst h13; decide
      · have hm : c ∈ trimCr s := by
          unfold trimCr Lib.trimSuffix
          split
          · rename_i hs
            obtain ⟨t, ht⟩ := List.isSuffixOf_iff_suffix.1 hs
            rw [← ht] at hc ⊢
            simp at hc ⊢
            rcases hc with hc | hc
            · exact hc
            · exact absurd hc h13
          · exact hc
        have := List.any_eq_false.1 h3 c hm
        unfold badL at this
        simp only [Bool.or_eq_true, not_or, decide_eq_true_eq, UInt8.lt_iff_toNat_lt] at this
        have := this.1
        have e : (126 : UInt8).toNat = 126 := rfl
        omega
/-- the round's law -/
theorem get_step {no : Nat} {t : Txt} {acc : List LineM} (h : t ≠ []) :
    getFrom no (spl t) acc = if 2500 < no then ([], no, 6) else if lookB (cutNl t).1 ≠ 0 then ([], no, lookB (cutNl t).1) else getFrom (no + 1) (spl (cutNl t).2) (acc ++ lineOf no (cutNl t).1) := by
  rw [(spl_cut h).1]; rfl
end Vic
namespace Go.Proofs.YtfnhdiibkogekaaGreatDoor
open Go.RowKit Vic

theorem info_Line0 : (Tryz.prog.info? 33).map (fun i => (i.zero, i.size, i.bytes)) = some (some (.agg #[.int .i64 0, .bool false, .slice none 0 0]), 3, 40) := by kernel_rfl
theorem info_Line : ∃ i : TypeInfo, Tryz.prog.info? 33 = some i ∧ i.zero = some (.agg #[.int .i64 0, .bool false, .slice none 0 0]) ∧ i.size = 3 ∧ i.bytes = 40 := by
  have h := info_Line0
  cases hi : Tryz.prog.info? 33 with
  | none => rw [hi] at h; simp at h
  | some i => rw [hi] at h; simp at h; exact ⟨i, rfl, h.1, h.2.1, h.2.2⟩

set_option maxRecDepth 100000 in
set_option maxHeartbeats 8000000 in
theorem words_Get (w : World) (t : Txt) (ht : Tab w) (hs : t.length ≤ 4294967280) : Calls Tryz.prog 9 #[.string ⟨t.toArray⟩] w (WordsGot t w) := by
  unfold WordsGot
  have HT := Lib.hid ht
  have HR : Hid (wordsGet t = getFrom (0 + 1) (spl t) (([] : List LineV).map (·.1))) := rfl
  generalize wordsGet t = R at *
  have HS := Lib.hid hs
  obtain ⟨i1, hi1, hz1, hsz1, hby1⟩ := info_Line
  clear ht hs
  go_enter Tryz.func9, Tryz.ntmps9
  go_wp2_with fail
  go_loopw [0, 5, 6] (fun tv v nv wr => ∃ (s : Txt) (k : Nat) (lvs : List LineV) (vv : Value), tv = .string ⟨s.toArray⟩ ∧ vv = v ∧ nv = .int .i64 ((k : Int) + 1) ∧ k ≤ 2500 ∧ lvs.length ≤ k ∧ Hid (s.length ≤ 4294967280) ∧ Hid (R = getFrom (k + 1) (spl s) (lvs.map (·.1))) ∧ Hid (LinesOwn wr w.heap.size vv lvs) ∧ Below w.heap.size w wr) (fun tv _ _ _ => strLen tv)
  case atStart => exact ⟨t, 0, [], _, rfl, rfl, rfl, by omega, Nat.le_refl _, HS, HR, ⟨OwnK.nil_ _ _ _ _ _, fun x hx => by simp at hx⟩, Below.refl _ _⟩
  case round =>
    obtain ⟨s, k, lvs, vv, rfl, rfl, rfl, hk, hlk, hsl, hR, hown, hbr⟩ := hrel
    by_cases hne : s = []
    · subst hne
      have HE : Hid (R = (lvs.map (·.1), 0, 0)) := hR.out
      go_wp2_with fail
      go_ret3
      exact ⟨vv, by rw [HE.out]; rfl, by rw [HE.out]; exact hown.out.in_, hbr⟩
    · have hse : s.isEmpty = false := by
        cases s with
        | nil => exact absurd rfl hne
        | cons a b => rfl
      obtain ⟨hc1, hc2, hc3⟩ := spl_cut hne
      have CC := Lib.hid (strings_Cut wr (HT.out.keep hbr) s [10] (by have := hsl.out; omega))
      have hR2 := hR.out.trans (get_step hne)
      have hll : (cutNl s).1.length ≤ s.length := cut_len1 s [10]
      unfold cutNl at hc1 hc2 hc3 hR2 hll
      generalize Lib.cut s [10] = ct at *
      obtain ⟨a, b, fd⟩ := ct
      simp only at hc1 hc2 hc3 hR2 hll CC
      have HR2 := Lib.hid hR2
      have HC2 := Lib.hid hc2
      have HLL := Lib.hid hll
      clear hne hc1 hc3 hR hR2 hc2 hll
      go_wp2_with fail
      refine CC.out.mono ?_
      rintro e w1 ⟨rfl, hb1⟩
      have B1 := hbr.trans (hb1.mono hbr.size)
      by_cases hk2 : 2500 < k + 1
      · have HE : Hid (R = ([], k + 1, 6)) := by
          have := HR2.out
          rwa [if_pos hk2] at this
        go_wp2_with fail
        go_ret3
        exact ⟨_, by rw [HE.out]; rfl, by rw [HE.out]; exact SlIn.nil_ _ _ _, B1⟩
      · have hR3 := HR2.out
        rw [if_neg hk2] at hR3
        have HR3 := Lib.hid hR3
        have CL := Lib.hid (words_look w1 a (by have := hsl.out; have := HLL.out; omega))
        have HAS := Lib.hid (look_ascii (s := a))
        generalize lookB a = r at *
        clear HR2 hR3
        have hk3 : (k : Int) + 1 ≤ 2500 := by omega
        go_wp2_with fail
        refine CL.out.mono ?_
        rintro e w2 ⟨rfl, hb2⟩
        have B2 := B1.trans (hb2.mono B1.size)
        by_cases hr : r = 0
        · subst hr
          have hR4 := HR3.out
          rw [if_neg (by simp)] at hR4
          have HR4 := Lib.hid hR4
          have CF := Lib.hid (strings_FieldsFunc w2 a (by have := hsl.out; have := HLL.out; omega) (HAS.out rfl))
          clear HR3 hR4
          go_wp2_with fail
          refine CF.out.mono ?_
          rintro e w3 ⟨fv, rfl, ⟨hfs, fa, fc, rfl⟩, hb3⟩
          have B3 := B2.trans (hb3.mono B2.size)
          have HF := Lib.hid hfs
          clear hfs
          have hff := Lib.hid (show lineOf (k + 1) a = if fieldsB a = [] ∨ a.head? = some 42 then [] else [⟨k + 1, a.head? != some 32 && a.head? != some 9, fieldsB a⟩] from rfl)
          have hfn : Hid ((fieldsB a).length = 0 → fieldsB a = []) := fun h => List.eq_nil_of_length_eq_zero h
          have hfa : Hid (fieldsB a ≠ [] → a ≠ []) := fun h e => h (by subst e; rfl)
          generalize fieldsB a = fs at *
          generalize lineOf (k + 1) a = lo at *
          by_cases hf0 : fs.length = 0
          · have HE : Hid (lo = []) := by
              show _ = _
              rw [hff.out, if_pos (Or.inl (hfn.out hf0))]
            have hR5 := HR4.out
            rw [HE.out, List.append_nil] at hR5
            have HR5 := Lib.hid hR5
            have hfl : ((fs.length : Int) == 0) = true := by rw [beq_iff_eq]; omega
            have hO := Lib.hid (hown.out.keep ((hb1.trans (hb2.mono hb1.size)).trans (hb3.mono (Nat.le_trans hb1.size hb2.size))))
            clear hR5 HR4
            go_wp2_with fail
            go_roundw
            case rel => exact ⟨b, k + 1, lvs, vv, rfl, rfl, by go_num, by omega, by omega, by have := HC2.out; have := hsl.out; exact Lib.hid (by omega), HR5, hO, B3⟩
            case measure => simp [strLen, ByteArray.size]; have := HC2.out; omega
          · have hfl : ((fs.length : Int) == 0) = false := by rw [beq_eq_false_iff_ne]; omega
            obtain ⟨c, a2, rfl⟩ : ∃ c a2, a = c :: a2 := by
              cases a with
              | nil => exact absurd rfl (hfa.out fun e => hf0 (by rw [e]; rfl))
              | cons c a2 => exact ⟨c, a2, rfl⟩
            have hcx := c.toNat_lt
            have hO := Lib.hid (hown.out.keep ((hb1.trans (hb2.mono hb1.size)).trans (hb3.mono (Nat.le_trans hb1.size hb2.size))))
            have hne := Lib.hid (show fs ≠ [] from fun e => hf0 (by rw [e]; rfl))
            clear hf0 hfa hfn HAS HLL hown
            by_cases h42 : c = 42
            · subst h42
              have HE : Hid (lo = []) := by
                show _ = _
                rw [hff.out]; simp
              have hR5 := HR4.out
              rw [HE.out, List.append_nil] at hR5
              have HR5 := Lib.hid hR5
              clear hR5 HR4
              go_wp2_with fail
              go_roundw
              case rel => exact ⟨b, k + 1, lvs, vv, rfl, rfl, by go_num, by omega, by omega, by have := HC2.out; have := hsl.out; exact Lib.hid (by omega), HR5, hO, B3⟩
              case measure => simp [strLen, ByteArray.size]; have := HC2.out; omega
            · have h42' : ((c.toNat : Int) == 42) = false := by
                rw [beq_eq_false_iff_ne]
                intro e
                exact h42 (UInt8.toNat_inj.1 (by have : (42 : UInt8).toNat = 42 := rfl; omega))
              have hix : ∀ h, (⟨(c :: a2).toArray⟩ : ByteArray)[0]'h = c := fun _ => rfl
              have hk7 : w.heap.size ≤ w3.heap.size := B3.size
              have HE : ∀ hd : Bool, (c != 32 && c != 9) = hd → Hid (lo = [⟨k + 1, hd, fs⟩]) := fun hd e => by
                show _ = _
                rw [hff.out, if_neg (by simp [hne.out, h42]), ← e]
                rfl
              have fin : Hid (∀ (hd : Bool) (v6 : Value) (w6 : World), (c != 32 && c != 9) = hd → Own w6 w.heap.size 33 3 v6 (lvs.length + 1) (lvs.flatMap encLine ++ [.int .i64 ((k : Int) + 1), .bool hd, .slice fa fs.length fc]) →
                  (w3.alloc (.cells #[.int .i64 ((k : Int) + 1), .bool hd, .slice fa fs.length fc] 33)).grownBy w6 vv.ownBlock →
                  Hid (R = getFrom (k + 1 + 1) (spl b) ((lvs ++ [((⟨k + 1, hd, fs⟩ : LineM), Value.slice fa fs.length fc)]).map (·.1))) ∧ Hid (LinesOwn w6 w.heap.size v6 (lvs ++ [((⟨k + 1, hd, fs⟩ : LineM), Value.slice fa fs.length fc)])) ∧ Below w.heap.size w w6) :=
                Lib.hid fun hd v6 w6 he ho hg => by
                  have hal : Below w3.heap.size w3 (w3.alloc (.cells #[.int .i64 ((k : Int) + 1), .bool hd, .slice fa fs.length fc] 33)) := (Below.refl _ _).alloc (Nat.le_refl _) _
                  refine ⟨?_, ?_, ?_⟩
                  · show R = _
                    rw [HR4.out, (HE hd he).out]; simp
                  · exact (hO.out.keep hal).add _ (HF.out.keep StrTy.firm hal) ho hg
                  · refine (B3.trans (hal.mono B3.size)).grown hg (by simp; omega) fun j hj => (hO.out.own.lt hj).1
              clear HE hff HR4
              have HIX := Lib.hid hix
              by_cases h32 : c = 32
              · subst h32
                go_wp2_with (at_builtin; refine wpList_append_ownK (Kd := fun _ => True) rfl (.tmp 42) (.tmp 54) 25 rfl w.heap.size 33 i1 _ 3 Tryz.underlying25 hi1 hz1 hsz1 rfl (by omega) _ lvs.length _ rfl (hO.out.own.alloc _) ⟨w3.heap.size, 0, none⟩ 1 1 [.int .i64 ((k : Int) + 1), .bool false, .slice fa fs.length fc] rfl (by simp) (by intro j u hj; rcases j with _ | _ | _ | j <;> simp at hj <;> subst hj <;> simp [Addr.add]) (by simp [Value.oneCell']) (by simp) (by simp) (by omega) (by unfold maxLen; omega) (by rw [hby1]; omega) (by simp; omega) ?_; intro v6 w6 hown6 hgr6 hloc6; refine Hid.out ?_)
                obtain ⟨f1, f2, f3⟩ := fin.out false v6 w6 rfl hown6 hgr6
                refine Lib.hid ?_
                clear fin hO HF
                go_wp2_with fail
                go_roundw
                case rel => exact ⟨b, k + 1, _, v6, rfl, rfl, by go_num, by omega, by simp; omega, by have := HC2.out; have := hsl.out; exact Lib.hid (by omega), f1, f2, f3⟩
                case measure => simp [strLen, ByteArray.size]; have := HC2.out; omega
              · by_cases h9 : c = 9
                · subst h9
                  go_wp2_with (at_builtin; refine wpList_append_ownK (Kd := fun _ => True) rfl (.tmp 42) (.tmp 54) 25 rfl w.heap.size 33 i1 _ 3 Tryz.underlying25 hi1 hz1 hsz1 rfl (by omega) _ lvs.length _ rfl (hO.out.own.alloc _) ⟨w3.heap.size, 0, none⟩ 1 1 [.int .i64 ((k : Int) + 1), .bool false, .slice fa fs.length fc] rfl (by simp) (by intro j u hj; rcases j with _ | _ | _ | j <;> simp at hj <;> subst hj <;> simp [Addr.add]) (by simp [Value.oneCell']) (by simp) (by simp) (by omega) (by unfold maxLen; omega) (by rw [hby1]; omega) (by simp; omega) ?_; intro v6 w6 hown6 hgr6 hloc6; refine Hid.out ?_)
                  obtain ⟨f1, f2, f3⟩ := fin.out false v6 w6 rfl hown6 hgr6
                  refine Lib.hid ?_
                  clear fin hO HF
                  go_wp2_with fail
                  go_roundw
                  case rel => exact ⟨b, k + 1, _, v6, rfl, rfl, by go_num, by omega, by simp; omega, by have := HC2.out; have := hsl.out; exact Lib.hid (by omega), f1, f2, f3⟩
                  case measure => simp [strLen, ByteArray.size]; have := HC2.out; omega
                · have n32 : ((c.toNat : Int) != 32) = true := by
                    rw [bne_iff_ne]
                    intro e
                    exact h32 (UInt8.toNat_inj.1 (by have : (32 : UInt8).toNat = 32 := rfl; omega))
                  have n9 : ((c.toNat : Int) != 9) = true := by
                    rw [bne_iff_ne]
                    intro e
                    exact h9 (UInt8.toNat_inj.1 (by have : (9 : UInt8).toNat = 9 := rfl; omega))
                  have he := Lib.hid (show (c != 32 && c != 9) = true by simp [h32, h9])
                  go_wp2_with (at_builtin; refine wpList_append_ownK (Kd := fun _ => True) rfl (.tmp 42) (.tmp 54) 25 rfl w.heap.size 33 i1 _ 3 Tryz.underlying25 hi1 hz1 hsz1 rfl (by omega) _ lvs.length _ rfl (hO.out.own.alloc _) ⟨w3.heap.size, 0, none⟩ 1 1 [.int .i64 ((k : Int) + 1), .bool true, .slice fa fs.length fc] rfl (by simp) (by intro j u hj; rcases j with _ | _ | _ | j <;> simp at hj <;> subst hj <;> simp [Addr.add]) (by simp [Value.oneCell']) (by simp) (by simp) (by omega) (by unfold maxLen; omega) (by rw [hby1]; omega) (by simp; omega) ?_; intro v6 w6 hown6 hgr6 hloc6; refine Hid.out ?_)
                  obtain ⟨f1, f2, f3⟩ := fin.out true v6 w6 he.out hown6 hgr6
                  refine Lib.hid ?_
                  clear fin hO HF
                  go_wp2_with fail
                  go_roundw
                  case rel => exact ⟨b, k + 1, _, v6, rfl, rfl, by go_num, by omega, by simp; omega, by have := HC2.out; have := hsl.out; exact Lib.hid (by omega), f1, f2, f3⟩
                  case measure => simp [strLen, ByteArray.size]; have := HC2.out; omega
        · have HE : Hid (R = ([], k + 1, r)) := by
            have := HR3.out
            rwa [if_pos hr] at this
          have hr1 : (r != 0) = true := by simpa using hr
          go_wp2_with fail
          go_ret3
          exact ⟨_, by rw [HE.out]; rfl, by rw [HE.out]; exact SlIn.nil_ _ _ _, B2⟩
end Go.Proofs.YtfnhdiibkogekaaGreatDoor
end
