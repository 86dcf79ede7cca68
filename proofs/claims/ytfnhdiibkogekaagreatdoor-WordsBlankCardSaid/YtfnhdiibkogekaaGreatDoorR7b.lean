/- Package victuallerref7: a text's lines of words. -/
import Derived.Test.YtfnhdiibkogekaaGreatDoorR7a
import Derived.Test.YtfnhdiibkogekaaGreatDoorGwC
import Derived.Test.YtfnhdiibkogekaaGreatDoorGwA
import Derived.Deep.LoopGhost
import Derived.StillTailTactics
set_option linter.unusedVariables false
set_option linter.unusedSimpArgs false
namespace Vic
open Go Go.RowKit
theorem set_last {α : Type} (l : List α) (x y : α) : (l ++ [x]).set l.length y = l ++ [y] := by simp
theorem encS_set (l : List Txt) (x y : Txt) : ((l ++ [x]).flatMap encS).set l.length (.string ⟨y.toArray⟩) = (l ++ [y]).flatMap encS := by
  have e : ∀ (l : List Txt), l.flatMap encS = l.map fun s => Value.string ⟨s.toArray⟩ := fun l => by induction l with
    | nil => rfl
    | cons a l ih => simp [encS, ih]
  rw [e, e]; simp
theorem slice_1 {l : List UInt8} {k : Nat} {y : UInt8} (h : l[k]? = some y) : (⟨l.toArray⟩ : ByteArray).extract k (k + 1) = ⟨#[y]⟩ := by
  rw [slice_mid]
  have hk := (List.getElem?_eq_some_iff.1 h).1
  have e : (l.drop k).take (k + 1 - k) = [y] := by
    rw [List.drop_eq_getElem_cons hk, show k + 1 - k = 1 from by omega]
    simp [(List.getElem?_eq_some_iff.1 h).2]
  rw [e]
theorem cat_1 (l : List UInt8) (y : UInt8) : (⟨l.toArray⟩ : ByteArray) ++ ⟨#[y]⟩ = ⟨(l ++ [y]).toArray⟩ := by apply ByteArray.ext; simp
theorem ws_step {c : Txt} {i : Nat} {y : UInt8} {st : List Txt × Bool} {z : List Txt × Bool} (hy : c[i]? = some y) (h : (c.drop i).foldl wsStep st = z) : (c.drop (i + 1)).foldl wsStep (wsStep st y) = z := by
  have hi := (List.getElem?_eq_some_iff.1 hy).1
  rw [List.drop_eq_getElem_cons hi, (List.getElem?_eq_some_iff.1 hy).2, List.foldl_cons] at h
  exact h
theorem spl_sizes : ∀ t : Txt, (spl t).length ≤ t.length ∧ ∀ l ∈ spl t, l.length ≤ t.length
  | [] => ⟨by simp [spl], fun l hl => by simp [spl] at hl⟩
  | c :: t => by
    obtain ⟨h1, h2⟩ := spl_sizes t
    rw [spl]
    split
    · refine ⟨by simp; omega, fun l hl => ?_⟩
      rcases List.mem_cons.1 hl with rfl | hl
      · simp
      · have := h2 l hl; simp; omega
    · split
      · exact ⟨by simp, fun l hl => by simp at hl; subst hl; simp⟩
      · rename_i l0 ls he
        rw [he] at h1 h2
        refine ⟨by simp at h1 ⊢; omega, fun l hl => ?_⟩
        rcases List.mem_cons.1 hl with rfl | hl
        · have := h2 l0 (by simp); simp; omega
        · have := h2 l (by simp [hl]); simp; omega
theorem blank2_x {y : UInt8} {x : Nat} (hx : x = y.toNat) : blank2 y = (decide (x = 32) || decide (x = 9)) := by
  unfold blank2
  rw [Bool.eq_iff_iff]
  subst hx
  simp [← UInt8.toNat_inj]
theorem badL_x {y : UInt8} {x : Nat} (hx : x = y.toNat) : badL y = (decide (126 < x) || (decide (x < 32) && decide (x ≠ 9))) := by
  unfold badL
  rw [Bool.eq_iff_iff]
  subst hx
  simp [UInt8.lt_iff_toNat_lt, ← UInt8.toNat_inj]
theorem strsTy_grown {w w' : World} {B T : Nat} {v : Value} {n : Nat} {xs : List Value} (h : Own w B T 3 v n xs) (hT : T ≠ 9) (hg : w.grownBy w' v.ownBlock) {sv : Value} {l : List Txt} (hl : StrsTy w sv l) : StrsTy w' sv l := hl.imp fun g o s _ ⟨⟨cur, fr, hb⟩, k⟩ => by
  have : w'.heap[g]? = w.heap[g]? := hg.block g (block_lt k) fun e => by
    obtain ⟨cur', hc'⟩ := h.typed e.symm
    rw [hb] at hc'
    injection hc' with hc'
    injection hc' with _ h2 _
    exact hT h2.symm
  exact ⟨⟨cur, fr, this.trans hb⟩, by show w'.cell? _ = _; simp only [World.cell?, this]; exact k⟩
theorem lines_in {w : World} {B T : Nat} {v : Value} {lvs : List LineV} (h : Own w B T 3 v lvs.length (lvs.flatMap encLine)) (hw : ∀ x ∈ lvs, StrsTy w x.2 x.1.words) : LinesIn w v (lvs.map (·.1)) := by
  have hs : SlIn (fun w g o (x : LineV) => LineR w g o x.1) 3 w v lvs := h.slIn encLine_len fun g i x hx hc => by
    refine ⟨x.2, ?_, ?_, ?_, (hw x (List.mem_of_getElem? hx)).strs⟩
    · have := hc 0 _ rfl; simpa using this
    · exact hc 1 _ rfl
    · exact hc 2 _ rfl
  obtain ⟨A, c, h1, h2, h3⟩ := hs
  refine ⟨A, c, by simpa using h1, by simpa using h2, fun i x hx => ?_⟩
  rw [List.getElem?_map] at hx
  cases hv : lvs[i]? with
  | none => rw [hv] at hx; simp at hx
  | some y =>
    rw [hv] at hx
    simp only [Option.map_some, Option.some.injEq] at hx
    subst hx
    exact h3 i y hv
theorem refLineOf_cons (no : Nat) (d : UInt8) (c2 : Txt) : refLineOf no (d :: c2) = if d = 42 then [] else if wsOf (d :: c2) = [] then [] else [⟨no, d != 32 && d != 9, wsOf (d :: c2)⟩] := by
  unfold refLineOf
  by_cases h : d = 42
  · rw [if_pos h, if_pos (Or.inr (by rw [h]; rfl))]
  · rw [if_neg h, if_neg (by rintro (h1 | h1); cases h1; injection h1 with h1; exact h h1)]
    rfl
theorem StrsOwn.last {w : World} {B g n cap : Nat} {L0 : List Txt} {lt : Txt} (h : StrsOwn w B (.slice (some ⟨g, 0, none⟩) n cap) (L0 ++ [lt])) : n = L0.length + 1 ∧ n ≤ cap ∧ B ≤ g ∧ w.cell? ⟨g, L0.length, none⟩ = some (.string ⟨lt.toArray⟩) ∧ w.frozen? ⟨g, L0.length, none⟩ = false := by
  obtain ⟨h1, ⟨h2, _⟩ | ⟨g', cap', cur, h3, h4, h5, h6, h7, h8, h9, _⟩⟩ := h
  · cases h2
  · injection h3 with h3 hn hc
    injection h3 with h3
    injection h3 with h3
    subst h3
    have hn' : n = L0.length + 1 := by rw [hn]; simp
    refine ⟨hn', by omega, h4, ?_, by simp [World.frozen?, h5]⟩
    have hc2 := congrArg (fun l => l[L0.length]?) h9
    have hx : ((L0 ++ [lt]).flatMap encS)[L0.length]? = some (Value.string ⟨lt.toArray⟩) := by
      have := fl_get (enc := encS) (size := 1) encS_len (l := L0 ++ [lt]) (i := L0.length) (x := lt) (k := 0) (by simp) (by omega)
      simpa [encS] using this
    simp only [World.cell?, h5]
    rw [hx, List.getElem?_take] at hc2
    split at hc2
    · simpa using hc2
    · cases hc2
theorem StrsOwn.put {w : World} {B g n cap : Nat} {L0 : List Txt} {lt : Txt} (h : StrsOwn w B (.slice (some ⟨g, 0, none⟩) n cap) (L0 ++ [lt])) (x : Txt) : StrsOwn (w.setCell ⟨g, L0.length, none⟩ (.string ⟨x.toArray⟩)) B (.slice (some ⟨g, 0, none⟩) n cap) (L0 ++ [x]) := by
  have hlen : ((L0 ++ [lt]).flatMap encS).length = (L0 ++ [lt]).length * 1 := fl_len encS_len _
  have := OwnK.store h (g := g) rfl L0.length (.string ⟨x.toArray⟩) (by rw [hlen]; simp) trivial
  rw [encS_set] at this
  unfold StrsOwn
  have e : (L0 ++ [x]).length = (L0 ++ [lt]).length := by simp
  rw [e]; exact this
end Vic
namespace Go.Proofs.YtfnhdiibkogekaaGreatDoor
open Go.RowKit Vic
theorem info_RLine0 : (Tryz.prog.info? 34).map (fun i => (i.zero, i.size, i.bytes)) = some (some (.agg #[.int .i64 0, .bool false, .slice none 0 0]), 3, 40) := by kernel_rfl
theorem info_RLine : ∃ i : TypeInfo, Tryz.prog.info? 34 = some i ∧ i.zero = some (.agg #[.int .i64 0, .bool false, .slice none 0 0]) ∧ i.size = 3 ∧ i.bytes = 40 := by
  have h := info_RLine0
  cases hi : Tryz.prog.info? 34 with
  | none => rw [hi] at h; simp at h
  | some i => rw [hi] at h; simp at h; exact ⟨i, rfl, h.1, h.2.1, h.2.2⟩

set_option maxRecDepth 100000 in
set_option maxHeartbeats 8000000 in
theorem ref7_Get (w : World) (t : Txt) (hs : t.length ≤ 100000) : Calls Tryz.prog 10 #[.string ⟨t.toArray⟩] w (WordsGot t w) := by
  unfold WordsGot
  have HR : Hid (wordsGet t = refFrom 0 ((spl t).drop 0) (([] : List LineV).map (·.1))) := Lib.hid (by unfold wordsGet; rw [List.drop_zero]; exact (ref_same (spl t) 0 []).symm)
  generalize wordsGet t = R at *
  have CL := Lib.hid (ref7_lines w t (by omega))
  obtain ⟨hll, hlen⟩ := spl_sizes t
  have HLEN := Lib.hid hlen
  generalize spl t = ls at *
  have HS := Lib.hid hs
  obtain ⟨i1, hi1, hz1, hsz1, hby1⟩ := info_RLine
  obtain ⟨i2, hi2, hz2, hsz2, hby2⟩ := info_txt
  clear hlen
  go_enter Tryz.func10, Tryz.ntmps10
  go_wp2_with fail
  refine CL.out.mono ?_
  rintro e w1 ⟨lv, rfl, hlv, hb1⟩
  obtain ⟨LA, LC, rfl, hlc, hls⟩ := hlv
  have HLS := Lib.hid hls
  clear hls
  go_wp2_with fail
  go_loopg [7, 5] ls.length (fun gk iv v wr => ∃ (k : Nat) (lvs : List LineV), iv = .int .i64 k ∧ k + gk = ls.length ∧ lvs.length ≤ k ∧ Hid (R = refFrom k (ls.drop k) (lvs.map (·.1))) ∧ Hid (Own wr w1.heap.size 34 3 v lvs.length (lvs.flatMap encLine)) ∧ Hid (∀ x ∈ lvs, StrsTy wr x.2 x.1.words) ∧ Below w1.heap.size w1 wr ∧ Below w.heap.size w wr)
  case atStart => exact ⟨0, [], rfl, by omega, Nat.le_refl _, HR, Lib.hid (OwnK.nil_ _ _ _ _ _), Lib.hid (fun x hx => by simp at hx), Below.refl _ _, hb1⟩
  case round =>
    obtain ⟨k, lvs, rfl, hkg, hlk, hR, hown, hwd, hbr1, hbr⟩ := hrel
    by_cases hlt : k < ls.length
    · obtain ⟨s, hsk⟩ : ∃ s, ls[k]? = some s := ⟨ls[k], by simp [hlt]⟩
      obtain ⟨lg, lo, hLA, hcell⟩ := HLS.out k s hsk
      subst hLA
      have hcell2 := cell_keep hcell hbr1
      rw [Nat.mul_one] at hcell2
      have hsl : s.length ≤ t.length := HLEN.out s (List.mem_of_getElem? hsk)
      have hR2 := hR.out
      rw [List.drop_eq_getElem_cons hlt, show ls[k] = s from by simpa [hlt] using hsk, refFrom] at hR2
      have HR2 := Lib.hid hR2
      have HKG := Lib.hid hkg
      unfold StrR at hcell
      clear hR hR2 hsk hcell hkg
      by_cases hbad : 2500 ≤ k ∨ 200 < s.length
      · -- DEV(
        have hR3 := HR2.out
        rw [if_pos hbad] at hR3
        have HE := Lib.hid hR3
        clear HR2 hR3
        by_cases h25 : 2500 ≤ k
        · clear hbad
          go_wp2_with fail
          go_ret3
          exact ⟨_, by rw [HE.out]; rfl, by rw [HE.out]; exact SlIn.nil_ _ _ _, hbr⟩
        · have h200 : 200 < s.length := by omega
          clear hbad
          go_wp2_with fail
          go_ret3
          exact ⟨_, by rw [HE.out]; rfl, by rw [HE.out]; exact SlIn.nil_ _ _ _, hbr⟩
        -- )DEV
      · obtain ⟨h25, h200⟩ : k < 2500 ∧ s.length ≤ 200 := by omega
        have hR3 := HR2.out
        rw [if_neg hbad] at hR3
        obtain ⟨c, hc⟩ : ∃ c, c = crSp s := ⟨_, rfl⟩
        rw [← hc] at hR3
        have HR3 := Lib.hid hR3
        have hcl : c.length ≤ 200 := by
          rw [hc]; unfold crSp
          split
          · simp; omega
          · exact h200
        have HC := Lib.hid hc
        clear HR2 hR3 hc hbad
        obtain ⟨b13, hb13⟩ : ∃ b : Bool, b = (s.getLast? == some 13) := ⟨_, rfl⟩
        have HB := Lib.hid hb13
        clear hb13
        go_upto_region 9 with fail
        go_cut [44] (fun cv wc => cv = .bool b13 ∧ wc = wr)
        case first =>
          -- DEV(
          rcases List.eq_nil_or_concat s with hs0 | ⟨q, b, hq⟩
          · subst hs0
            have hf : b13 = false := HB.out
            subst hf
            go_wp2_with fail
            go_meet
            exact ⟨rfl, rfl⟩
          · obtain ⟨n, hn⟩ : ∃ n, n = q.length := ⟨_, rfl⟩
            have hsn : s.length = n + 1 := by rw [hq, hn]; simp
            obtain ⟨hget, b', x, hsk, hxe, hx⟩ := byte7 (s := s) (k := n) (by omega)
            have hbb : b' = b := by
              rw [hq, hn] at hsk
              simpa using hsk.symm
            have hne : s.isEmpty = false := by rw [hq]; simp
            have hx13 : ((x : Int) == 13) = b13 := by
              rw [HB.out, hxe, hbb, hq, List.concat_eq_append, List.getLast?_concat, Bool.eq_iff_iff]
              simp [← UInt8.toNat_inj]
              omega
            clear hsk hxe hq hn hbb
            go_wp2_with fail
            go_meet
            exact ⟨rfl, rfl⟩
          -- )DEV
        case rest =>
          obtain ⟨rfl, rfl⟩ := hcut
          obtain ⟨W0, hW0⟩ : ∃ x, x = wc := ⟨_, rfl⟩
          go_upto_if 44 with fail
          go_cut [8] (fun cv wx => cv = .string ⟨c.toArray⟩ ∧ wx = W0)
          case first =>
            -- DEV(
            cases hb : b13
            · have hce : c = s := by rw [HC.out]; unfold crSp; rw [if_neg]; intro h; rw [HB.out, h] at hb; exact absurd hb (by decide)
              subst hce
              go_wp2_with fail
              go_meet
              exact ⟨rfl, hW0.symm⟩
            · have hg : s.getLast? = some 13 := by rw [HB.out] at hb; simpa using hb
              obtain ⟨q, rfl⟩ := List.getLast?_eq_some_iff.1 hg
              have hce : c = q ++ [32] := by rw [HC.out]; simp [crSp]
              have hql : (q ++ [13]).length = q.length + 1 := by simp
              have hqn : q.length ≤ 200 := by rw [hql] at h200; omega
              have hsl : (⟨(q ++ [13]).toArray⟩ : ByteArray).extract 0 q.length = ⟨q.toArray⟩ := by rw [take_bytes]; simp
              have hcat : (⟨q.toArray⟩ : ByteArray) ++ ⟨#[32]⟩ = ⟨c.toArray⟩ := by rw [hce]; apply ByteArray.ext; simp
              go_wp2_with fail
              go_meet
              exact ⟨by first | rfl | rw [hce], hW0.symm⟩
            -- )DEV
          case rest =>
            obtain ⟨rfl, rfl⟩ := hcut
            subst hW0
            clear HC HB HR CL HS
            have HB1 := Lib.hid hb1.size
            clear hb1
            clear hcell2
            go_wp2_with fail
            obtain ⟨W9, hW9⟩ : ∃ x, x = wc := ⟨_, rfl⟩
            rw [← hW9] at hown hwd hbr1 hbr
            go_loopg [9] c.length (fun gj jv wx => ∃ j : Nat, jv = .int .i64 j ∧ j + gj = c.length ∧ Hid (∀ (i : Nat) (y : UInt8), i < j → c[i]? = some y → badL y = false) ∧ W9 = wx)
            case atStart => exact ⟨0, rfl, by omega, Lib.hid (fun i y h => by omega), hW9⟩
            case round =>
              obtain ⟨j, rfl, hj, hz, rfl⟩ := hrel
              clear hW9
              by_cases hjl : j < c.length
              · -- DEV(
                obtain ⟨hget2, y, x2, hcy, hx2, hx3⟩ := byte7 hjl
                have HCY := Lib.hid hcy
                have hbx := badL_x hx2
                clear hcy hx2
                by_cases hB : badL y = true
                · have HE : Hid (R = ([], k + 1, 1)) := Lib.hid (by
                    have := HR3.out
                    rwa [if_pos (List.any_eq_true.2 ⟨y, List.mem_of_getElem? HCY.out, hB⟩)] at this)
                  rw [hB] at hbx
                  have hd : 126 < x2 ∨ (¬ 126 < x2 ∧ x2 < 32 ∧ ((x2 : Int) != 9) = true) := by
                    simp at hbx
                    by_cases h126 : 126 < x2
                    · exact .inl h126
                    · exact .inr ⟨h126, by omega, by rw [bne_iff_ne]; omega⟩
                  clear hbx hB HR3
                  rcases hd with h1 | ⟨h1, h2, h3⟩
                  all_goals
                    go_wp2_with fail
                    go_ret3
                    exact ⟨_, by rw [HE.out]; rfl, by rw [HE.out]; exact SlIn.nil_ _ _ _, hbr⟩
                · have hB' : badL y = false := by simpa using hB
                  have HZ : Hid (∀ (i : Nat) (z : UInt8), i < j + 1 → c[i]? = some z → badL z = false) := Lib.hid fun i z h1 h2 => by
                    rcases Nat.lt_or_eq_of_le (Nat.le_of_lt_succ h1) with h3 | h3
                    · exact hz.out i z h3 h2
                    · subst h3
                      rw [HCY.out] at h2; cases h2; exact hB'
                  rw [hB'] at hbx
                  have hd : (¬ 126 < x2 ∧ ¬ x2 < 32) ∨ (¬ 126 < x2 ∧ x2 < 32 ∧ ((x2 : Int) != 9) = false) := by
                    simp at hbx
                    by_cases h32 : x2 < 32
                    · exact .inr ⟨by omega, h32, by have := hbx.2 h32; simp [this]⟩
                    · exact .inl ⟨by omega, h32⟩
                  clear hbx hB hB' hz
                  rcases hd with ⟨h1, h2⟩ | ⟨h1, h2, h3⟩
                  all_goals
                    go_wp2_with fail
                    go_roundg (gk - 1)
                    case measure => omega
                    case rel => exact ⟨j + 1, by go_num, by omega, HZ, rfl⟩
                -- )DEV
              · obtain rfl : j = c.length := by omega
                have HR4 : Hid (R = refFrom (k + 1) (ls.drop (k + 1)) (lvs.map (·.1) ++ refLineOf (k + 1) c)) := Lib.hid (by
                  have hany : c.any badL = false := List.any_eq_false.2 fun y hy => by
                    obtain ⟨i, hi⟩ := List.getElem?_of_mem hy
                    have := hz.out i y (List.getElem?_eq_some_iff.1 hi).1 hi
                    simp [this]
                  have := HR3.out
                  rwa [hany, if_neg (by simp)] at this)
                clear HR3 hz hj
                have hkg := HKG.out
                by_cases hc0 : c = []
                · -- DEV(
                  subst hc0
                  have HR5 : Hid (R = refFrom (k + 1) (ls.drop (k + 1)) (lvs.map (·.1))) := Lib.hid (by
                    have := HR4.out
                    rwa [show refLineOf (k + 1) [] = [] from by simp [refLineOf], List.append_nil] at this)
                  clear HR4
                  go_wp2_with fail
                  go_roundg (ls.length - (k + 1))
                  case measure => omega
                  case rel => exact ⟨k + 1, lvs, by go_num, by omega, by omega, HR5, hown, hwd, hbr1, hbr⟩
                  -- )DEV
                · obtain ⟨d, c2, hcd⟩ : ∃ d c2, c = d :: c2 := by
                    cases c with
                    | nil => exact absurd rfl hc0
                    | cons d c2 => exact ⟨d, c2, rfl⟩
                  have hce : c.isEmpty = false := by rw [hcd]; rfl
                  obtain ⟨hget0, d', x0, hc00, hx00, hx01⟩ := byte7 (s := c) (k := 0) (by rw [hcd]; simp)
                  have hdd : d' = d := by rw [hcd] at hc00; simpa using hc00.symm
                  subst hdd
                  have HRL := Lib.hid (show refLineOf (k + 1) c = if d' = 42 then [] else if wsOf c = [] then [] else [⟨k + 1, d' != 32 && d' != 9, wsOf c⟩] from by rw [hcd]; exact refLineOf_cons _ _ _)
                  have hx42 : ((x0 : Int) == 42) = (d' == 42) := by
                    rw [Bool.eq_iff_iff, hx00]; simp [← UInt8.toNat_inj]; omega
                  have hx32 : ((x0 : Int) != 32) = (d' != 32) := by
                    rw [Bool.eq_iff_iff, hx00]; simp [← UInt8.toNat_inj]; omega
                  have hx9 : ((x0 : Int) != 9) = (d' != 9) := by
                    rw [Bool.eq_iff_iff, hx00]; simp [← UInt8.toNat_inj]; omega
                  clear hc00 hx00 hcd hc0
                  by_cases h42 : d' = 42
                  · -- DEV(
                    have HR5 : Hid (R = refFrom (k + 1) (ls.drop (k + 1)) (lvs.map (·.1))) := Lib.hid (by
                      have := HR4.out
                      rwa [HRL.out, if_pos h42, List.append_nil] at this)
                    rw [show (d' == 42) = true from by simp [h42]] at hx42
                    clear HR4 HRL hx32 hx9
                    go_wp2_with fail
                    go_roundg (ls.length - (k + 1))
                    case measure => omega
                    case rel => exact ⟨k + 1, lvs, by go_num, by omega, by omega, HR5, hown, hwd, hbr1, hbr⟩
                    -- )DEV
                  · have HR5 : Hid (R = refFrom (k + 1) (ls.drop (k + 1)) (lvs.map (·.1) ++ if wsOf c = [] then [] else [⟨k + 1, d' != 32 && d' != 9, wsOf c⟩])) := Lib.hid (by
                      have := HR4.out
                      rwa [HRL.out, if_neg h42] at this)
                    rw [show (d' == 42) = false from by simp [h42]] at hx42
                    obtain ⟨b32, hb32⟩ : ∃ b, b = (d' != 32) := ⟨_, rfl⟩
                    obtain ⟨b9, hb9⟩ : ∃ b, b = (d' != 9) := ⟨_, rfl⟩
                    rw [← hb32] at hx32
                    rw [← hb9] at hx9
                    have HB32 := Lib.hid hb32
                    have HB9 := Lib.hid hb9
                    have HKG2 := Lib.hid hkg
                    clear HR4 HRL h42 hb32 hb9 hkg
                    go_wp2_with fail
                    have HFO : Hid (c.foldl wsStep (([] : List Txt), false) = c.foldl wsStep ([], false)) := rfl
                    go_loopg [12, 10, 11] c.length (fun gi iv v inv wx => ∃ (i : Nat) (L : List Txt) (bi : Bool), iv = .int .i64 i ∧ inv = .bool bi ∧ i + gi = c.length ∧ L.length ≤ i ∧ Hid ((c.drop i).foldl wsStep (L, bi) = c.foldl wsStep ([], false)) ∧ Hid (bi = true → L ≠ []) ∧ Hid (∀ s ∈ L, s.length ≤ i) ∧ Hid (StrsOwn wx W9.heap.size v L) ∧ Below W9.heap.size W9 wx)
                    case atStart => exact ⟨0, [], false, rfl, rfl, by omega, Nat.zero_le _, HFO, Lib.hid (fun h => by cases h), Lib.hid (fun s hs => by simp at hs), Lib.hid (OwnK.nil_ _ _ _ _ _), Below.refl _ _⟩
                    case round =>
                      obtain ⟨i, L, bi, rfl, rfl, hig, hLi, hfold, hbi, hlb, hwo, hbx⟩ := hrel
                      by_cases hil : i < c.length
                      · obtain ⟨hget3, y, x, hcy, hxe, hx⟩ := byte7 hil
                        have hbl := blank2_x hxe
                        have hst := ws_step hcy hfold.out
                        have HST := Lib.hid hst
                        have hs1 := slice_1 hcy
                        clear hst hcy hfold
                        by_cases hbk : blank2 y = true
                        · have HS2 : Hid ((c.drop (i + 1)).foldl wsStep (L, false) = c.foldl wsStep ([], false)) := Lib.hid (by
                            have := HST.out
                            rwa [wsStep, if_pos hbk] at this)
                          have hd : ((x : Int) == 32) = true ∨ (((x : Int) == 32) = false ∧ ((x : Int) == 9) = true) := by
                            rw [hbk] at hbl
                            by_cases h1 : x = 32
                            · left; rw [beq_iff_eq]; omega
                            · right
                              simp [h1] at hbl
                              exact ⟨by rw [beq_eq_false_iff_ne]; omega, by rw [beq_iff_eq]; omega⟩
                          clear hbl hbk HST hs1 hxe
                          -- DEV(
                          rcases hd with h1 | ⟨h1, h2⟩
                          all_goals
                            go_wp2_with fail
                            go_roundg (gk - 1)
                            case measure => omega
                            case rel => exact ⟨i + 1, L, false, by go_num, rfl, by omega, by omega, HS2, Lib.hid (fun h => by cases h), Lib.hid (fun s hs => Nat.le_succ_of_le (hlb.out s hs)), hwo, hbx⟩
                          -- )DEV
                        · have hbk' : blank2 y = false := by simpa using hbk
                          rw [hbk'] at hbl
                          have h1 : ((x : Int) == 32) = false := by
                            simp at hbl
                            rw [beq_eq_false_iff_ne]; omega
                          have h2 : ((x : Int) == 9) = false := by
                            simp at hbl
                            rw [beq_eq_false_iff_ne]; omega
                          have HBK := Lib.hid hbk'
                          clear hbl hbk hbk' hxe
                          cases bi
                          case' false =>
                            have HS2 : Hid ((c.drop (i + 1)).foldl wsStep (L ++ [[] ++ [y]], true) = c.foldl wsStep ([], false)) := Lib.hid (by
                              have := HST.out
                              rw [wsStep, HBK.out] at this
                              simpa using this)
                            have hown1 := Lib.hid (hwo.out.alloc (.cells #[.string ⟨#[]⟩] 9))
                            have hk1 : W9.heap.size ≤ (wr.alloc (.cells #[.string ⟨#[]⟩] 9)).heap.size := Nat.le_trans hbx.size (by simp)
                            have hnew1 : Hid (∀ (j : Nat) u, [Value.string ⟨#[]⟩][j]? = some u → (wr.alloc (.cells #[.string ⟨#[]⟩] 9)).cell? ((⟨wr.heap.size, 0, none⟩ : Addr).add j) = some u) := Lib.hid fun j u hj => by
                              rcases j with _ | j
                              · cases hj
                                exact (Row.new _ _ _).cell 0
                              · simp at hj
                            clear HST HBK
                            go_wp2_with (at_builtin; refine wpList_append_ownK (Kd := fun _ => True) rfl (.tmp 104) (.tmp 105) 24 rfl W9.heap.size 9 i2 _ 1 Tryz.underlying24 hi2 hz2 hsz2 rfl (by omega) _ L.length _ rfl hown1.out ⟨wr.heap.size, 0, none⟩ 1 1 [Value.string ⟨#[]⟩] rfl (by simp) hnew1.out (by simp [Value.oneCell']) (by simp) (by simp) (by omega) (by unfold maxLen; omega) (by rw [hby2]; omega) hk1 ?_; intro v6 w6 hown6 hgr6 hloc6; refine Hid.out ?_)
                            have hal : Below wr.heap.size wr (wr.alloc (.cells #[.string ⟨#[]⟩] 9)) := (Below.refl _ _).alloc (Nat.le_refl _) _
                            have hb6 := (hbx.trans (hal.mono hbx.size)).grown hgr6 hk1 fun j hj => (hwo.out.lt hj).1
                            rw [encS_app L []] at hown6
                            have HO6 : Hid (StrsOwn w6 W9.heap.size v6 (L ++ [[]])) := Lib.hid (by unfold StrsOwn; rw [List.length_append, List.length_singleton]; exact hown6)
                            obtain ⟨g, cap, rfl⟩ := HO6.out.shape (by simp)
                            obtain ⟨L0, hL0⟩ : ∃ L0, L0 = L := ⟨_, rfl⟩
                            obtain ⟨lt, hlt2⟩ : ∃ lt : Txt, lt = [] := ⟨_, rfl⟩
                            have HS3 := HS2
                            clear HS2
                            have HS2 : Hid ((c.drop (i + 1)).foldl wsStep (L0 ++ [lt ++ [y]], true) = c.foldl wsStep ([], false)) := Lib.hid (by rw [hL0, hlt2]; exact HS3.out)
                            clear HS3
                            rw [← hL0, ← hlt2] at HO6
                            have hLl : L0.length ≤ i := by rw [hL0]; exact hLi
                            have HLB : Hid (∀ s ∈ L0 ++ [lt], s.length ≤ i) := Lib.hid fun s hs => by
                              rcases List.mem_append.1 hs with hs | hs
                              · rw [hL0] at hs; exact hlb.out s hs
                              · simp at hs; rw [hs, hlt2]; simp
                            rw [← hL0, ← hlt2]
                            clear hlb hown6 hown1 hgr6 hloc6 hnew1 hL0 hlt2 hwo hbx hLi hk1
                            generalize w6 = W at *
                            refine Lib.hid ?_
                          case' true =>
                            have hLne := hbi.out rfl
                            obtain ⟨L0, lt, hLe⟩ : ∃ L0 lt, L = L0 ++ [lt] := by
                              rcases List.eq_nil_or_concat L with h | ⟨a, b, h⟩
                              · exact absurd h hLne
                              · exact ⟨a, b, by rw [h, List.concat_eq_append]⟩
                            subst hLe
                            have HS2 : Hid ((c.drop (i + 1)).foldl wsStep (L0 ++ [lt ++ [y]], true) = c.foldl wsStep ([], false)) := Lib.hid (by
                              have := HST.out
                              rw [wsStep, HBK.out] at this
                              simpa using this)
                            have HO6 := hwo
                            have hb6 := hbx
                            have HLB := hlb
                            clear hlb
                            have hLl : L0.length ≤ i := by simp at hLi; omega
                            obtain ⟨g, cap, rfl⟩ := HO6.out.shape (by simp)
                            clear HST HBK hwo hbx hLi hLne hbi
                            generalize wr = W at *
                          all_goals
                            have hcat := cat_1 lt y
                            obtain ⟨hn, hncap, hgB, hcell, hfz⟩ := HO6.out.last
                            have HPUT := Lib.hid ((StrsOwn.put HO6.out (lt ++ [y])).keep (Below.refl _ _).drew)
                            rw [hn] at HPUT
                            have HG := Lib.hid hgB
                            have hpp1 : ((L0.length : Nat) : Int) + 1 - 1 = (L0.length : Nat) := by omega
                            have hpp2 : ((L0.length : Nat) : Int) < (L0.length : Nat) + 1 := by omega
                            have hpp3 : (0 : Int) ≤ (L0.length : Nat) := by omega
                            have hwr1 : IntKind.i64.wrap ((L0.length : Nat) : Int) = ((L0.length : Nat) : Int) := by rw [IntKind.wrap_i64]; omega
                            have hwr2 : IntKind.i64.wrap ((i : Int) + 1) = (i : Int) + 1 := by rw [IntKind.wrap_i64]; omega
                            have hA : (0 : Int) ≤ (i : Int) + 1 := by omega
                            have hB : (i : Int) + 1 ≤ (c.length : Int) := by omega
                            have hC : (i : Int) ≤ (i : Int) + 1 := by omega
                            have hsz : ¬ 9223372036854775807 < lt.length + 1 := by have := HLB.out lt (by simp); omega
                            clear hgB
                            go_wp2_with fail
                            go_still_tail 13, (by kernel_rfl)
                            go_wp2_with fail
                            go_roundg (gk - 1)
                            case measure => omega
                            case rel => exact ⟨i + 1, L0 ++ [lt ++ [y]], true, by go_num, rfl, by omega, by simp; omega, HS2, Lib.hid (fun _ h => by simp at h), Lib.hid (fun s hs => by
                              rcases List.mem_append.1 hs with hs | hs
                              · exact Nat.le_succ_of_le (HLB.out s (by simp [hs]))
                              · have := HLB.out lt (by simp); simp at hs; rw [hs]; simp; omega), HPUT, (hb6.setCell HG.out _).drew⟩
                      · -- DEV(
                        obtain rfl : i = c.length := by omega
                        have HW : Hid (L = wsOf c) := Lib.hid (by
                          have := hfold.out
                          rw [List.drop_length, List.foldl_nil] at this
                          unfold wsOf; rw [← this])
                        have HR6 : Hid (R = refFrom (k + 1) (ls.drop (k + 1)) (lvs.map (·.1) ++ if L = [] then [] else [⟨k + 1, b32 && b9, L⟩])) := Lib.hid (by rw [HW.out, HB32.out, HB9.out]; exact HR5.out)
                        have hbw : Below w.heap.size w wr := hbr.trans (hbx.mono hbr.size)
                        have hbw1 : Below w1.heap.size w1 wr := hbr1.trans (hbx.mono hbr1.size)
                        have hown7 := Lib.hid (hown.out.keep hbx)
                        have hwd7 : Hid (∀ x ∈ lvs, StrsTy wr x.2 x.1.words) := Lib.hid fun x hx => (hwd.out x hx).keep StrTy.firm hbx
                        have hkg := HKG2.out
                        clear HR5 HW hfold hown hwd hbr hbr1 hbi HB32 HB9 HFO HKG2
                        by_cases hL0 : L = []
                        · subst hL0
                          have HR7 : Hid (R = refFrom (k + 1) (ls.drop (k + 1)) (lvs.map (·.1))) := Lib.hid (by
                            have := HR6.out
                            rwa [if_pos rfl, List.append_nil] at this)
                          obtain ⟨Aw, cw, rfl, _, _⟩ := hwo.out.sl
                          clear HR6
                          go_wp2_with fail
                          go_roundg (ls.length - (k + 1))
                          case measure => omega
                          case rel => exact ⟨k + 1, lvs, by go_num, by omega, by omega, HR7, hown7, hwd7, hbw1, hbw⟩
                        · have hLp : 0 < L.length := List.length_pos_iff.2 hL0
                          obtain ⟨g, cap, rfl⟩ := hwo.out.shape hLp
                          have hLn : ((L.length : Int) > 0) := by omega
                          have HR7 : Hid (R = refFrom (k + 1) (ls.drop (k + 1)) (lvs.map (·.1) ++ [⟨k + 1, b32 && b9, L⟩])) := Lib.hid (by
                            have := HR6.out
                            rwa [if_neg hL0] at this)
                          obtain ⟨v5, hv5⟩ : ∃ x, x = u5 := ⟨_, rfl⟩
                          have fin : Hid (∀ (hd : Bool) (v6 : Value) (w6 : World), hd = (b32 && b9) → Own w6 w1.heap.size 34 3 v6 (lvs.length + 1) (lvs.flatMap encLine ++ [.int .i64 ((k : Int) + 1), .bool hd, .slice (some ⟨g, 0, none⟩) L.length cap]) →
                              (wr.alloc (.cells #[.int .i64 ((k : Int) + 1), .bool hd, .slice (some ⟨g, 0, none⟩) L.length cap] 34)).grownBy w6 u5.ownBlock →
                              Hid (R = refFrom (k + 1) (ls.drop (k + 1)) ((lvs ++ [((⟨k + 1, hd, L⟩ : LineM), Value.slice (some ⟨g, 0, none⟩) L.length cap)]).map (·.1))) ∧ Hid (Own w6 w1.heap.size 34 3 v6 (lvs ++ [((⟨k + 1, hd, L⟩ : LineM), Value.slice (some ⟨g, 0, none⟩) L.length cap)]).length ((lvs ++ [((⟨k + 1, hd, L⟩ : LineM), Value.slice (some ⟨g, 0, none⟩) L.length cap)]).flatMap encLine)) ∧
                              Hid (∀ x ∈ lvs ++ [((⟨k + 1, hd, L⟩ : LineM), Value.slice (some ⟨g, 0, none⟩) L.length cap)], StrsTy w6 x.2 x.1.words) ∧ Below w1.heap.size w1 w6 ∧ Below w.heap.size w w6) := Lib.hid fun hd v6 w6 he ho hg => by
                            subst he
                            have hal : Below wr.heap.size wr (wr.alloc (.cells #[.int .i64 ((k : Int) + 1), .bool (b32 && b9), .slice (some ⟨g, 0, none⟩) L.length cap] 34)) := (Below.refl _ _).alloc (Nat.le_refl _) _
                            have ho7 := hown7.out.keep hal
                            refine ⟨Lib.hid (by rw [HR7.out]; simp), Lib.hid (by simpa [encLine] using ho), Lib.hid fun x hx => ?_, ?_, ?_⟩
                            · refine strsTy_grown ho7 (by decide) hg ?_
                              rcases List.mem_append.1 hx with hx | hx
                              · exact (hwd7.out x hx).keep StrTy.firm hal
                              · simp at hx; subst hx; exact hwo.out.ty.keep StrTy.firm hal
                            · refine (hbw1.trans (hal.mono hbw1.size)).grown hg (Nat.le_trans hbw1.size hal.size) fun j hj => ?_
                              exact (hown7.out.lt hj).1
                            · exact (hbw.trans (hal.mono hbw.size)).grown hg (Nat.le_trans hbw.size hal.size) fun j hj => Nat.le_trans HB1.out (hown7.out.lt hj).1
                          have hkb := hbw1.size
                          clear HR6 HR7 hL0 hv5 v5
                          cases b32
                          · have hf := Lib.hid (show (false && b9) = false from rfl)
                            go_wp2_with (at_builtin; refine wpList_append_ownK (Kd := fun _ => True) rfl (.tmp 127) (.tmp 140) 29 rfl w1.heap.size 34 i1 _ 3 Tryz.underlying29 hi1 hz1 hsz1 rfl (by omega) _ lvs.length _ rfl (hown7.out.alloc _) ⟨wr.heap.size, 0, none⟩ 1 1 [.int .i64 ((k : Int) + 1), .bool false, .slice (some ⟨g, 0, none⟩) L.length cap] rfl (by simp) (by intro j u hj; rcases j with _ | _ | _ | j <;> simp at hj <;> subst hj <;> simp [Addr.add]) (by simp [Value.oneCell']) (by simp) (by simp) (by omega) (by unfold maxLen; omega) (by rw [hby1]; omega) (by simp; omega) ?_; intro v6 w6 hown6 hgr6 hloc6; refine Hid.out ?_)
                            obtain ⟨f1, f2, f3, f4, f5⟩ := fin.out false v6 w6 rfl hown6 hgr6
                            refine Lib.hid ?_
                            clear fin
                            go_wp2_with fail
                            go_roundg (ls.length - (k + 1))
                            case measure => omega
                            case rel => exact ⟨k + 1, _, by go_num, by omega, by simp; omega, f1, f2, f3, f4, f5⟩
                          · cases b9
                            · go_wp2_with (at_builtin; refine wpList_append_ownK (Kd := fun _ => True) rfl (.tmp 127) (.tmp 140) 29 rfl w1.heap.size 34 i1 _ 3 Tryz.underlying29 hi1 hz1 hsz1 rfl (by omega) _ lvs.length _ rfl (hown7.out.alloc _) ⟨wr.heap.size, 0, none⟩ 1 1 [.int .i64 ((k : Int) + 1), .bool false, .slice (some ⟨g, 0, none⟩) L.length cap] rfl (by simp) (by intro j u hj; rcases j with _ | _ | _ | j <;> simp at hj <;> subst hj <;> simp [Addr.add]) (by simp [Value.oneCell']) (by simp) (by simp) (by omega) (by unfold maxLen; omega) (by rw [hby1]; omega) (by simp; omega) ?_; intro v6 w6 hown6 hgr6 hloc6; refine Hid.out ?_)
                              obtain ⟨f1, f2, f3, f4, f5⟩ := fin.out false v6 w6 rfl hown6 hgr6
                              refine Lib.hid ?_
                              clear fin
                              go_wp2_with fail
                              go_roundg (ls.length - (k + 1))
                              case measure => omega
                              case rel => exact ⟨k + 1, _, by go_num, by omega, by simp; omega, f1, f2, f3, f4, f5⟩
                            · go_wp2_with (at_builtin; refine wpList_append_ownK (Kd := fun _ => True) rfl (.tmp 127) (.tmp 140) 29 rfl w1.heap.size 34 i1 _ 3 Tryz.underlying29 hi1 hz1 hsz1 rfl (by omega) _ lvs.length _ rfl (hown7.out.alloc _) ⟨wr.heap.size, 0, none⟩ 1 1 [.int .i64 ((k : Int) + 1), .bool true, .slice (some ⟨g, 0, none⟩) L.length cap] rfl (by simp) (by intro j u hj; rcases j with _ | _ | _ | j <;> simp at hj <;> subst hj <;> simp [Addr.add]) (by simp [Value.oneCell']) (by simp) (by simp) (by omega) (by unfold maxLen; omega) (by rw [hby1]; omega) (by simp; omega) ?_; intro v6 w6 hown6 hgr6 hloc6; refine Hid.out ?_)
                              obtain ⟨f1, f2, f3, f4, f5⟩ := fin.out true v6 w6 rfl hown6 hgr6
                              refine Lib.hid ?_
                              clear fin
                              go_wp2_with fail
                              go_roundg (ls.length - (k + 1))
                              case measure => omega
                              case rel => exact ⟨k + 1, _, by go_num, by omega, by simp; omega, f1, f2, f3, f4, f5⟩
                        -- )DEV
    · obtain rfl : k = ls.length := by omega
      have HE : Hid (R = (lvs.map (·.1), 0, 0)) := Lib.hid (by
        have := hR.out
        rw [List.drop_length] at this
        exact this)
      clear hR
      obtain ⟨A7, c7, hv7, _, _⟩ := hown.out.sl
      go_wp2_with fail
      go_ret3
      exact ⟨_, by rw [HE.out]; rfl, by rw [HE.out]; exact lines_in hown.out hwd.out, hbr⟩
end Go.Proofs.YtfnhdiibkogekaaGreatDoor
