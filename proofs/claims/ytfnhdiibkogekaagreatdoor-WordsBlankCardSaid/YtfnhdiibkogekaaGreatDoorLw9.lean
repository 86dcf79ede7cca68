/- WordsBlank returns true at all words and numbers. -/
import Derived.Test.YtfnhdiibkogekaaGreatDoorAmPf
import Derived.Test.YtfnhdiibkogekaaGreatDoorGwC
import Derived.Test.YtfnhdiibkogekaaGreatDoorR7b
import Derived.Test.YtfnhdiibkogekaaGreatDoorGwA
import Derived.Test.YtfnhdiibkogekaaGreatDoorTextCut
import Derived.Test.YtfnhdiibkogekaaGreatDoorArgL
import Derived.Test.YtfnhdiibkogekaaGreatDoorHeldW
import Derived.Deep.LoopGhost
import Derived.Deep.QuietTactic
import Derived.BigQuiet
set_option linter.unusedVariables false
set_option linter.unusedSimpArgs false
namespace Vic
open Go Go.RowKit
/-- a pair, and where its words lie -/
abbrev PairV := (Nat × Txt) × Value
def encP (x : PairV) : List Value := [x.2]
theorem encP_len (x : PairV) : (encP x).length = 1 := rfl
def pieces (l : List PairV) : Txt := (l.map (·.1)).flatMap fun p => blankPiece p.1 p.2
theorem strsTy_grown1 {w w' : World} {B T size : Nat} {v : Value} {n : Nat} {xs : List Value} (h : Own w B T size v n xs) (hT : T ≠ 9) (hg : w.grownBy w' v.ownBlock) {sv : Value} {l : List Txt} (hl : StrsTy w sv l) : StrsTy w' sv l := hl.imp fun g o s _ ⟨⟨cur, fr, hb⟩, k⟩ => by
  have : w'.heap[g]? = w.heap[g]? := hg.block g (block_lt k) fun e => by
    obtain ⟨cur', hc'⟩ := h.typed e.symm
    rw [hb] at hc'
    injection hc' with hc'
    injection hc' with _ h2 _
    exact hT h2.symm
  exact ⟨⟨cur, fr, this.trans hb⟩, by show w'.cell? _ = _; simp only [World.cell?, this]; exact k⟩
theorem blank_get {l : List PairV} (h : ∀ x ∈ l, x.1.1 < 16 ∧ nameB x.1.2 = true) (hl : l.length ≤ 12) : ∃ ls, wordsGet (pieces l) = (ls, 0, 0) ∧ ls.length = l.length ∧ ∀ (i : Nat) (x : LineM) (u : Txt), ls[i]? = some x → (l.map fun p => p.1.2)[i]? = some u → x.head = false ∧ x.words = [u, [120]] := by
  obtain ⟨ls, h1, h2, h3⟩ := blank_all (l.map (·.1)) 1 [] [] (fun p hp => by
    obtain ⟨x, hx, rfl⟩ := List.mem_map.1 hp
    exact h x hx) (by simp; omega) ⟨rfl, fun i l w h => by simp at h⟩
  refine ⟨ls, h1, by simpa using h2, fun i x u hx hu => h3 i x u hx (by simpa using hu)⟩
theorem low15 (x : Int) : ∃ K : Nat, K < 16 ∧ bits .and .i64 x 15 = (K : Int) := by
  have h15 : (BitVec.ofInt 64 15).toNat = 2 ^ 4 - 1 := by decide
  have key : (BitVec.ofInt 64 x &&& BitVec.ofInt 64 15).toNat = (x % ((2 ^ 64 : Nat) : Int)).toNat % 2 ^ 4 := by
    rw [BitVec.toNat_and, BitVec.toNat_ofInt, h15, Nat.and_two_pow_sub_one_eq_mod]
  have e : bits .and .i64 x 15 = x % 16 := by
    show IntKind.i64.wrap ((BitVec.ofInt 64 x &&& BitVec.ofInt 64 15).toNat : Nat) = x % 16
    rw [key, IntKind.wrap_i64]
    omega
  exact ⟨(x % 16).toNat, by omega, by rw [e]; omega⟩
theorem low1 : ∀ K < 16, bits .and .i64 ((K : Nat) : Int) 1 = ((K % 2 : Nat) : Int) := by decide
theorem piece_len : ∀ k < 16, ∀ w : Txt, w.length ≤ 20 → (blankPiece k w).length ≤ 50 := by
  intro k hk w hw
  obtain ⟨_, _, _, _, h1, h2, h3, _⟩ := piece_facts k hk
  have h4 : (endT k).length ≤ 1 := by rcases h3 with e | e <;> rw [e] <;> simp
  unfold blankPiece blankLines noteT mainT
  split <;> simp <;> omega
theorem pieces_len {l : List PairV} (h : ∀ x ∈ l, x.1.1 < 16 ∧ nameB x.1.2 = true) : (pieces l).length ≤ 50 * l.length := by
  induction l with
  | nil => simp [pieces]
  | cons x l ih =>
    have h1 := ih fun y hy => h y (by simp [hy])
    obtain ⟨h2, h3⟩ := h x (by simp)
    have h4 := piece_len x.1.1 h2 x.1.2 (name_c h3).2.1
    have e : pieces (x :: l) = blankPiece x.1.1 x.1.2 ++ pieces l := by simp [pieces]
    rw [e, List.length_append, List.length_cons]; omega
theorem lead_at : ∀ K < 16, (#[.string ⟨#[32]⟩, .string ⟨#[9]⟩, .string ⟨#[32, 32]⟩, .string ⟨#[32, 9]⟩] : Array Value)[K / 2 % 4]? = some (.string ⟨(leadT K).toArray⟩) := by
  intro K hK
  have : K / 2 % 4 = 0 ∨ K / 2 % 4 = 1 ∨ K / 2 % 4 = 2 ∨ K / 2 % 4 = 3 := by omega
  unfold leadT
  rcases this with h | h | h | h <;> rw [h] <;> rfl
theorem mid_at : ∀ K < 16, (#[.string ⟨#[32]⟩, .string ⟨#[9, 9]⟩] : Array Value)[K / 8]? = some (.string ⟨(midT K).toArray⟩) := by
  intro K hK
  have : K / 8 = 0 ∨ K / 8 = 1 := by omega
  unfold midT
  rcases this with h | h <;> rw [h] <;> rfl
theorem end_at : ∀ K < 16, (#[.string ⟨#[10]⟩, .string ⟨#[13, 10]⟩] : Array Value)[K / 4 % 2]? = some (.string ⟨(endT K ++ [10]).toArray⟩) := by
  intro K hK
  have : K / 4 % 2 = 0 ∨ K / 4 % 2 = 1 := by omega
  unfold endT
  rcases this with h | h <;> rw [h] <;> rfl
theorem low3 : ∀ K < 8, bits .and .i64 ((K : Nat) : Int) 3 = ((K % 4 : Nat) : Int) := by decide
def noteL : Txt := [10, 42, 32, 97, 32, 99, 111, 109, 109, 101, 110, 116, 10, 32, 9, 32, 10]
theorem blank_cat (K : Nat) (u P : Txt) : (P ++ (if K % 2 = 1 then noteL else [])) ++ ((((leadT K ++ u) ++ midT K) ++ [120]) ++ (endT K ++ [10])) = P ++ blankPiece K u := by
  unfold blankPiece blankLines noteT mainT noteL
  split <;> simp
end Vic
namespace Go.Proofs.YtfnhdiibkogekaaGreatDoor
open Go.RowKit Vic

theorem info_txts0 : (Tryz.prog.info? 24).map (fun i => (i.zero, i.size, i.bytes)) = some (some (.slice none 0 0), 1, 24) := by kernel_rfl
theorem info_txts : ∃ i : TypeInfo, Tryz.prog.info? 24 = some i ∧ i.zero = some (.slice none 0 0) ∧ i.size = 1 ∧ i.bytes = 24 := by
  have h := info_txts0
  cases hi : Tryz.prog.info? 24 with
  | none => rw [hi] at h; simp at h
  | some i => rw [hi] at h; simp at h; exact ⟨i, rfl, h.1, h.2.1, h.2.2⟩
-- DEFS(
abbrev vblk16_0 : Oper := { dst := some 50, op := Go.Op.move (Go.Operand.tmp 7), type := 9, pos := "more.go:38", after := #[], guard := none }
abbrev vblk16_1 : Oper := { dst := some 51, op := Go.Op.buildSlice 24 4 #[(0, Go.Operand.const (Go.Value.string { data := #[32] })), (1, Go.Operand.const (Go.Value.string { data := #[9] })), (2, Go.Operand.const (Go.Value.string { data := #[32, 32] })), (3, Go.Operand.const (Go.Value.string { data := #[32, 9] }))], type := 24, pos := "more.go:38", after := #[], guard := none }
abbrev vblk16_2 : Oper := { dst := some 52, op := Go.Op.move (Go.Operand.tmp 10), type := 3, pos := "more.go:38", after := #[], guard := none }
abbrev vblk16_3 : Oper := { dst := some 53, op := Go.Op.binOp Go.BinOp.shr 3 (Go.Operand.tmp 52) (Go.Operand.const (Go.Value.int Go.IntKind.u64 1)) 39, type := 3, pos := "more.go:38", after := #[{ on := 2, ground := Go.Ground.data }], guard := none }
abbrev vblk16_4 : Oper := { dst := some 54, op := Go.Op.binOp Go.BinOp.and 3 (Go.Operand.tmp 53) (Go.Operand.const (Go.Value.int Go.IntKind.i64 3)) 3, type := 3, pos := "more.go:38", after := #[{ on := 3, ground := Go.Ground.data }], guard := none }
abbrev vblk16_5 : Oper := { dst := some 55, op := Go.Op.indexAddr 24 (Go.Operand.tmp 51) (Go.Operand.tmp 54), type := 0, pos := "more.go:38", after := #[{ on := 1, ground := Go.Ground.data }, { on := 4, ground := Go.Ground.data }], guard := none }
abbrev vblk16_6 : Oper := { dst := some 56, op := Go.Op.load 9 (Go.Operand.tmp 55), type := 9, pos := "more.go:38", after := #[{ on := 5, ground := Go.Ground.data }], guard := none }
abbrev vblk16_7 : Oper := { dst := some 57, op := Go.Op.move (Go.Operand.tmp 9), type := 9, pos := "more.go:38", after := #[], guard := none }
abbrev vblk16_8 : Oper := { dst := some 58, op := Go.Op.binOp Go.BinOp.add 9 (Go.Operand.tmp 56) (Go.Operand.tmp 57) 9, type := 9, pos := "more.go:38", after := #[{ on := 6, ground := Go.Ground.data }, { on := 7, ground := Go.Ground.data }], guard := none }
abbrev vblk16_9 : Oper := { dst := some 59, op := Go.Op.buildSlice 24 2 #[(0, Go.Operand.const (Go.Value.string { data := #[32] })), (1, Go.Operand.const (Go.Value.string { data := #[9, 9] }))], type := 24, pos := "more.go:38", after := #[], guard := none }
abbrev vblk16_10 : Oper := { dst := some 60, op := Go.Op.move (Go.Operand.tmp 10), type := 3, pos := "more.go:38", after := #[], guard := none }
abbrev vblk16_11 : Oper := { dst := some 61, op := Go.Op.binOp Go.BinOp.shr 3 (Go.Operand.tmp 60) (Go.Operand.const (Go.Value.int Go.IntKind.u64 3)) 39, type := 3, pos := "more.go:38", after := #[{ on := 10, ground := Go.Ground.data }], guard := none }
abbrev vblk16_12 : Oper := { dst := some 62, op := Go.Op.indexAddr 24 (Go.Operand.tmp 59) (Go.Operand.tmp 61), type := 0, pos := "more.go:38", after := #[{ on := 9, ground := Go.Ground.data }, { on := 11, ground := Go.Ground.data }], guard := none }
abbrev vblk16_13 : Oper := { dst := some 63, op := Go.Op.load 9 (Go.Operand.tmp 62), type := 9, pos := "more.go:38", after := #[{ on := 12, ground := Go.Ground.data }], guard := none }
abbrev vblk16_14 : Oper := { dst := some 64, op := Go.Op.binOp Go.BinOp.add 9 (Go.Operand.tmp 58) (Go.Operand.tmp 63) 9, type := 9, pos := "more.go:38", after := #[{ on := 8, ground := Go.Ground.data }, { on := 13, ground := Go.Ground.data }], guard := none }
abbrev vblk16_15 : Oper := { dst := some 65, op := Go.Op.binOp Go.BinOp.add 9 (Go.Operand.tmp 64) (Go.Operand.const (Go.Value.string { data := #[120] })) 9, type := 9, pos := "more.go:38", after := #[{ on := 14, ground := Go.Ground.data }], guard := none }
abbrev vblk16_16 : Oper := { dst := some 66, op := Go.Op.buildSlice 24 2 #[(0, Go.Operand.const (Go.Value.string { data := #[10] })), (1, Go.Operand.const (Go.Value.string { data := #[13, 10] }))], type := 24, pos := "more.go:38", after := #[], guard := none }
abbrev vblk16_17 : Oper := { dst := some 67, op := Go.Op.move (Go.Operand.tmp 10), type := 3, pos := "more.go:38", after := #[], guard := none }
abbrev vblk16_18 : Oper := { dst := some 68, op := Go.Op.binOp Go.BinOp.shr 3 (Go.Operand.tmp 67) (Go.Operand.const (Go.Value.int Go.IntKind.u64 2)) 39, type := 3, pos := "more.go:38", after := #[{ on := 17, ground := Go.Ground.data }], guard := none }
abbrev vblk16_19 : Oper := { dst := some 69, op := Go.Op.binOp Go.BinOp.and 3 (Go.Operand.tmp 68) (Go.Operand.const (Go.Value.int Go.IntKind.i64 1)) 3, type := 3, pos := "more.go:38", after := #[{ on := 18, ground := Go.Ground.data }], guard := none }
abbrev vblk16_20 : Oper := { dst := some 70, op := Go.Op.indexAddr 24 (Go.Operand.tmp 66) (Go.Operand.tmp 69), type := 0, pos := "more.go:38", after := #[{ on := 16, ground := Go.Ground.data }, { on := 19, ground := Go.Ground.data }], guard := none }
abbrev vblk16_21 : Oper := { dst := some 71, op := Go.Op.load 9 (Go.Operand.tmp 70), type := 9, pos := "more.go:38", after := #[{ on := 20, ground := Go.Ground.data }], guard := none }
abbrev vblk16_22 : Oper := { dst := some 72, op := Go.Op.binOp Go.BinOp.add 9 (Go.Operand.tmp 65) (Go.Operand.tmp 71) 9, type := 9, pos := "more.go:38", after := #[{ on := 15, ground := Go.Ground.data }, { on := 21, ground := Go.Ground.data }], guard := none }
abbrev vblk16_23 : Oper := { dst := some 73, op := Go.Op.binOp Go.BinOp.add 9 (Go.Operand.tmp 50) (Go.Operand.tmp 72) 9, type := 9, pos := "more.go:38", after := #[{ on := 0, ground := Go.Ground.data }, { on := 22, ground := Go.Ground.data }], guard := none }
abbrev vblk16_24 : Oper := { dst := some 7, op := Go.Op.assign (Go.Operand.tmp 73), type := 9, pos := "more.go:38", after := #[{ on := 23, ground := Go.Ground.data }, { on := 0, ground := Go.Ground.phase }, { on := 1, ground := Go.Ground.phase }, { on := 2, ground := Go.Ground.phase }, { on := 3, ground := Go.Ground.phase }, { on := 4, ground := Go.Ground.phase }, { on := 5, ground := Go.Ground.phase }, { on := 6, ground := Go.Ground.phase }, { on := 7, ground := Go.Ground.phase }, { on := 8, ground := Go.Ground.phase }, { on := 9, ground := Go.Ground.phase }, { on := 10, ground := Go.Ground.phase }, { on := 11, ground := Go.Ground.phase }, { on := 12, ground := Go.Ground.phase }, { on := 13, ground := Go.Ground.phase }, { on := 14, ground := Go.Ground.phase }, { on := 15, ground := Go.Ground.phase }, { on := 16, ground := Go.Ground.phase }, { on := 17, ground := Go.Ground.phase }, { on := 18, ground := Go.Ground.phase }, { on := 19, ground := Go.Ground.phase }, { on := 20, ground := Go.Ground.phase }, { on := 21, ground := Go.Ground.phase }, { on := 22, ground := Go.Ground.phase }, { on := 23, ground := Go.Ground.phase }], guard := none }
-- )DEFS
set_option maxRecDepth 100000 in
set_option maxHeartbeats 8000000 in
theorem law7_WordsBlank (w : World) (hT : T7 w) (ht : Tab w) (va vb : Value) (ys : List Txt) (xs : List Int) (hy : StrsArg w va ys) (hx : IntsArg w vb xs) (hyl : ys.length ≤ 9223372036854775807) (hxl : xs.length ≤ 9223372036854775807) (hyb : ∀ y ∈ ys, y.length ≤ 9223372036854775807) (hxb : ∀ x ∈ xs, -9223372036854775808 ≤ x ∧ x ≤ 9223372036854775807) :
    Calls Tryz.prog 4 #[va, vb] w (Keeps (.bool true) w) := by
  have CB := Lib.hid (begun7 hT)
  have HT := Lib.hid ht
  obtain ⟨i9, hi9, hz9, hsz9, hby9⟩ := info_txts
  obtain ⟨YA, yc, rfl, hyc⟩ := hy
  obtain ⟨XA, xc, rfl, hxc⟩ := hx
  have HYC := Lib.hid hyc; have HXC := Lib.hid hxc; have HYB := Lib.hid hyb; have HXB := Lib.hid hxb
  clear hT ht hyc hxc hyb hxb
  go_enter Tryz.func4, Tryz.ntmps4
  go_wp2_with fail
  refine CB.out.mono ?_
  rintro e w1 ⟨rfl, hb1⟩
  go_wp2_with fail
  go_loopg [8, 6, 7] 12 (fun g iv v sv wr => ∃ (i : Nat) (l : List PairV), iv = .int .i64 i ∧ i + g = 12 ∧ l.length ≤ i ∧ sv = .string ⟨(pieces l).toArray⟩ ∧ Hid (∀ x ∈ l, x.1.1 < 16 ∧ nameB x.1.2 = true) ∧ Hid (Own wr w1.heap.size 24 1 v l.length (l.flatMap encP)) ∧ Hid (∀ x ∈ l, StrsTy wr x.2 [x.1.2, [120]]) ∧ Below w1.heap.size w1 wr)
  case atStart => exact ⟨0, [], rfl, by omega, Nat.le_refl _, rfl, Lib.hid (fun x hx => by simp at hx), Lib.hid (OwnK.nil_ _ _ _ _ _), Lib.hid (fun x hx => by simp at hx), Below.refl _ _⟩
  case round =>
    obtain ⟨i, l, rfl, hig, hli, rfl, hgood, hown, hwd, hbr⟩ := hrel
    have hbw := below_seq hb1 hbr
    by_cases hgo : i < ys.length ∧ i < 12
    · obtain ⟨hiy, hi12⟩ := hgo
      obtain ⟨y, hyi⟩ : ∃ y, ys[i]? = some y := ⟨ys[i], by simp [hiy]⟩
      obtain ⟨g1, o1, rfl, hcy⟩ := HYC.out i y hyi
      have hcy2 := cell_keep hcy hbw
      have CT := Lib.hid (law_Text wr y 20 (HYB.out y (List.mem_of_getElem? hyi)) (by omega))
      have hul : (y.take 20).length ≤ 20 := by simp; omega
      generalize y.take 20 = u at *
      have CN : Hid (∀ W, Calls Tryz.prog 11 #[.string ⟨u.toArray⟩] W (Keeps (.bool (nameB u)) W)) := Lib.hid fun W => words_Name W u (by omega)
      clear hcy hyi
      go_wp2_with fail
      refine CT.out.mono ?_
      rintro e w2 ⟨rfl, hb2⟩
      go_wp2_with fail
      refine (CN.out w2).mono ?_
      rintro e w3 ⟨rfl, hb3⟩
      have hb13 : Below w1.heap.size w1 w3 := (hbr.trans (hb2.mono hbr.size)).trans (hb3.mono (Nat.le_trans hbr.size hb2.size))
      have hbr3 : Below wr.heap.size wr w3 := hb2.trans (hb3.mono hb2.size)
      have hown3 := Lib.hid (hown.out.keep hbr3)
      have hwd3 : Hid (∀ x ∈ l, StrsTy w3 x.2 [x.1.2, [120]]) := Lib.hid fun x hx => (hwd.out x hx).keep StrTy.firm hbr3
      have HIG := Lib.hid hig
      clear CT CN hb2 hb3 hbr3 hown hwd hbw hbr hcy2 hig
      by_cases hnm : nameB u = true
      · rw [hnm]
        have hbw3 := below_seq hb1 hb13
        go_upto_if 39 with fail
        go_cut [10] (fun kv wx => (∃ K : Nat, kv = .int .i64 K ∧ K < 16) ∧ wx = w3)
        case first =>
          by_cases hix : i < xs.length
          · obtain ⟨x, hxi⟩ : ∃ x, xs[i]? = some x := ⟨xs[i], by simp [hix]⟩
            obtain ⟨g2, o2, rfl, hcx⟩ := HXC.out i x hxi
            have hcx2 := cell_keep hcx hbw3
            obtain ⟨K, hK, hKe⟩ := low15 x
            clear hcx hxi
            go_wp2_with fail
            go_meet
            exact ⟨⟨K, rfl, hK⟩, rfl⟩
          · go_wp2_with fail
            go_meet
            exact ⟨⟨0, rfl, by omega⟩, rfl⟩
        case rest =>
          obtain ⟨⟨K, rfl, hK⟩, rfl⟩ := hcut
          have hl1 := low1 K hK
          have hpl := pieces_len hgood.out
          obtain ⟨P0, hP0⟩ : ∃ x, x = pieces l := ⟨_, rfl⟩
          have hP : P0.length ≤ 600 := by rw [hP0]; omega
          rw [← hP0]
          obtain ⟨P1, hP1⟩ : ∃ x, x = P0 ++ (if K % 2 = 1 then noteL else []) := ⟨_, rfl⟩
          have hPl1 : P1.length ≤ 700 := by rw [hP1]; split <;> simp [noteL] <;> omega
          have HP0 := Lib.hid hP0
          have HP1 := Lib.hid hP1
          obtain ⟨W0, hW0⟩ : ∃ x, x = wc := ⟨_, rfl⟩
          clear hpl hP0 hP1
          go_upto_if 47 with fail
          go_cut [7] (fun sv wx => sv = .string ⟨P1.toArray⟩ ∧ wx = W0)
          case first =>
            by_cases hodd : K % 2 = 1
            · have e1 : P1 = P0 ++ noteL := by rw [HP1.out, if_pos hodd]
              have e2 : ((K : Int) % 2 == 1) = true := by rw [beq_iff_eq]; omega
              have hcat : (⟨P0.toArray⟩ : ByteArray) ++ ⟨#[10, 42, 32, 97, 32, 99, 111, 109, 109, 101, 110, 116, 10, 32, 9, 32, 10]⟩ = ⟨P1.toArray⟩ := by rw [e1]; apply ByteArray.ext; simp [noteL]
              clear e1
              go_wp2_with fail
              go_meet
              exact ⟨rfl, hW0.symm⟩
            · have e1 : P1 = P0 := by rw [HP1.out, if_neg hodd]; simp
              have e2 : ((K : Int) % 2 == 1) = false := by rw [beq_eq_false_iff_ne]; omega
              subst e1
              go_wp2_with fail
              go_meet
              exact ⟨rfl, hW0.symm⟩
          case rest =>
            obtain ⟨rfl, rfl⟩ := hcut
            subst hW0
            have HU := Lib.hid hul
            obtain ⟨J1, hJ1⟩ : ∃ x, x = K / 2 := ⟨_, rfl⟩
            obtain ⟨I1, hI1⟩ : ∃ x, x = K / 2 % 4 := ⟨_, rfl⟩
            obtain ⟨I2, hI2⟩ : ∃ x, x = K / 8 := ⟨_, rfl⟩
            obtain ⟨J3, hJ3⟩ : ∃ x, x = K / 4 := ⟨_, rfl⟩
            obtain ⟨I3, hI3⟩ : ∃ x, x = K / 4 % 2 := ⟨_, rfl⟩
            obtain ⟨L1, hL1⟩ : ∃ x, x = leadT K := ⟨_, rfl⟩
            obtain ⟨L2, hL2⟩ : ∃ x, x = midT K := ⟨_, rfl⟩
            obtain ⟨L3, hL3⟩ : ∃ x, x = endT K ++ [10] := ⟨_, rfl⟩
            obtain ⟨_, _, _, _, hl1l, hl2l, hl3l, _⟩ := piece_facts K hK
            have hl3e : (endT K).length ≤ 1 := by rcases hl3l with e | e <;> rw [e] <;> simp
            have HA1 : Hid ((#[.string ⟨#[32]⟩, .string ⟨#[9]⟩, .string ⟨#[32, 32]⟩, .string ⟨#[32, 9]⟩] : Array Value)[I1]? = some (.string ⟨L1.toArray⟩)) := Lib.hid (by rw [hI1, hL1]; exact lead_at K hK)
            have HA2 : Hid ((#[.string ⟨#[32]⟩, .string ⟨#[9, 9]⟩] : Array Value)[I2]? = some (.string ⟨L2.toArray⟩)) := Lib.hid (by rw [hI2, hL2]; exact mid_at K hK)
            have HA3 : Hid ((#[.string ⟨#[10]⟩, .string ⟨#[13, 10]⟩] : Array Value)[I3]? = some (.string ⟨L3.toArray⟩)) := Lib.hid (by rw [hI3, hL3]; exact end_at K hK)
            obtain ⟨T8, hT8⟩ : ∃ x, x = L1 ++ u := ⟨_, rfl⟩
            obtain ⟨T14, hT14⟩ : ∃ x, x = T8 ++ L2 := ⟨_, rfl⟩
            obtain ⟨T15, hT15⟩ : ∃ x, x = T14 ++ [120] := ⟨_, rfl⟩
            obtain ⟨T22, hT22⟩ : ∃ x, x = T15 ++ L3 := ⟨_, rfl⟩
            obtain ⟨T23, hT23⟩ : ∃ x, x = P1 ++ T22 := ⟨_, rfl⟩
            have c8 : (⟨L1.toArray⟩ : ByteArray) ++ ⟨u.toArray⟩ = ⟨T8.toArray⟩ := by rw [hT8]; apply ByteArray.ext; simp
            have c14 : (⟨T8.toArray⟩ : ByteArray) ++ ⟨L2.toArray⟩ = ⟨T14.toArray⟩ := by rw [hT14]; apply ByteArray.ext; simp
            have c15 : (⟨T14.toArray⟩ : ByteArray) ++ ⟨#[120]⟩ = ⟨T15.toArray⟩ := by rw [hT15]; apply ByteArray.ext; simp
            have c22 : (⟨T15.toArray⟩ : ByteArray) ++ ⟨L3.toArray⟩ = ⟨T22.toArray⟩ := by rw [hT22]; apply ByteArray.ext; simp
            have c23 : (⟨P1.toArray⟩ : ByteArray) ++ ⟨T22.toArray⟩ = ⟨T23.toArray⟩ := by rw [hT23]; apply ByteArray.ext; simp
            have n1 : L1.length ≤ 2 := by rw [hL1]; exact hl1l
            have n2 : L2.length ≤ 2 := by rw [hL2]; exact hl2l
            have n3 : L3.length ≤ 2 := by rw [hL3]; simp; omega
            have n8 : T8.length ≤ 22 := by rw [hT8]; simp; omega
            have n14 : T14.length ≤ 24 := by rw [hT14]; simp; omega
            have n15 : T15.length ≤ 25 := by rw [hT15]; simp; omega
            have n22 : T22.length ≤ 27 := by rw [hT22]; simp; omega
            have s8 : ¬ 9223372036854775807 < L1.length + u.length := by omega
            have s14 : ¬ 9223372036854775807 < T8.length + L2.length := by omega
            have s15 : ¬ 9223372036854775807 < T14.length + 1 := by omega
            have s22 : ¬ 9223372036854775807 < T15.length + L3.length := by omega
            have s23 : ¬ 9223372036854775807 < P1.length + T22.length := by omega
            have i1 : (I1 : Int) < 4 := by omega
            have i2 : (I2 : Int) < 2 := by omega
            have i3 : (I3 : Int) < 2 := by omega
            have j1 : (0 : Int) ≤ I1 := by omega
            have j2 : (0 : Int) ≤ I2 := by omega
            have j3 : (0 : Int) ≤ I3 := by omega
            have HF : Hid (T23 = pieces l ++ blankPiece K u) := Lib.hid (by rw [hT23, hT22, hT15, hT14, hT8, hL1, hL2, hL3, HP1.out, HP0.out]; exact blank_cat K u (pieces l))
            have k1 : (K : Int) / 2 = (J1 : Int) := by omega
            have k2 : (K : Int) / 8 = (I2 : Int) := by omega
            have k3 : (K : Int) / 4 = (J3 : Int) := by omega
            have k4 : bits .and .i64 (J1 : Int) 3 = (I1 : Int) := by rw [hJ1, hI1]; exact low3 _ (by omega)
            have k6 : bits .and .i64 (J3 : Int) 1 = (I3 : Int) := by rw [hJ3, hI3]; exact low1 _ (by omega)
            have k5 : (J3 : Int) % 2 = (I3 : Int) := by omega
            clear hJ1 hI1 hI2 hJ3 hI3 hL1 hL2 hL3 hl1l hl2l hl3l hl3e hT8 hT14 hT15 hT22 hT23 n1 n2 n3 n8 n14 n15 n22 hl1 hPl1 hP
            go_upto_region 16 with fail
            go_cut [7] (fun sv wx => sv = .string ⟨T23.toArray⟩ ∧ Hid (Below wc.heap.size wc wx))
            case first =>
              -- DEV(
              -- REGION(
              refine wp_region_held (S := fun W => Below wc.heap.size wc W) (by kernel_rfl) ?_
              change wpAnyH _ _ _ _ _ _ _ _ (World.drew _)
              obtain ⟨W0, hW0⟩ : ∃ X, X = (wc).drew := ⟨_, rfl⟩
              rw [← hW0]
              have z0 : Below (wc).heap.size (wc) W0 := by rw [hW0]; exact Below.drewN_ (Below.refl _ _) 1
              clear hW0
              refine wpAnyH_take (i := 0) (oi := vblk16_0) (v := .string ⟨P1.toArray⟩) rfl (by kernel_rfl) (by kernel_rfl) (by kernel_rfl) (fun _ _ _ h => h) (Or.inl ⟨by kernel_rfl, ?_⟩) (z0) ?_
              · intro w hSw; go_simp <;> first | omega | (intro hh; exfalso; omega) | rfl
              try simp only [Act.put, List.setIfInBounds_toArray, List.set_cons_zero, List.set_cons_succ, vblk16_0]
              refine wpAnyH_take (i := 2) (oi := vblk16_2) (v := .int .i64 K) rfl (by kernel_rfl) (by kernel_rfl) (by kernel_rfl) (fun _ _ _ h => h) (Or.inl ⟨by kernel_rfl, ?_⟩) (z0) ?_
              · intro w hSw; go_simp <;> first | omega | (intro hh; exfalso; omega) | rfl
              try simp only [Act.put, List.setIfInBounds_toArray, List.set_cons_zero, List.set_cons_succ, vblk16_2]
              refine wpAnyH_take (i := 3) (oi := vblk16_3) (v := .int .i64 J1) rfl (by kernel_rfl) (by kernel_rfl) (by kernel_rfl) (fun _ _ _ h => h) (Or.inl ⟨by kernel_rfl, ?_⟩) (z0) ?_
              · intro w hSw; go_simp <;> first | omega | (intro hh; exfalso; omega) | rfl
              try simp only [Act.put, List.setIfInBounds_toArray, List.set_cons_zero, List.set_cons_succ, vblk16_3]
              refine wpAnyH_take (i := 4) (oi := vblk16_4) (v := .int .i64 I1) rfl (by kernel_rfl) (by kernel_rfl) (by kernel_rfl) (fun _ _ _ h => h) (Or.inl ⟨by kernel_rfl, ?_⟩) (z0) ?_
              · intro w hSw; go_simp <;> first | omega | (intro hh; exfalso; omega) | rfl
              try simp only [Act.put, List.setIfInBounds_toArray, List.set_cons_zero, List.set_cons_succ, vblk16_4]
              refine wpAnyH_take (i := 7) (oi := vblk16_7) (v := .string ⟨u.toArray⟩) rfl (by kernel_rfl) (by kernel_rfl) (by kernel_rfl) (fun _ _ _ h => h) (Or.inl ⟨by kernel_rfl, ?_⟩) (z0) ?_
              · intro w hSw; go_simp <;> first | omega | (intro hh; exfalso; omega) | rfl
              try simp only [Act.put, List.setIfInBounds_toArray, List.set_cons_zero, List.set_cons_succ, vblk16_7]
              refine wpAnyH_take (i := 10) (oi := vblk16_10) (v := .int .i64 K) rfl (by kernel_rfl) (by kernel_rfl) (by kernel_rfl) (fun _ _ _ h => h) (Or.inl ⟨by kernel_rfl, ?_⟩) (z0) ?_
              · intro w hSw; go_simp <;> first | omega | (intro hh; exfalso; omega) | rfl
              try simp only [Act.put, List.setIfInBounds_toArray, List.set_cons_zero, List.set_cons_succ, vblk16_10]
              refine wpAnyH_take (i := 11) (oi := vblk16_11) (v := .int .i64 I2) rfl (by kernel_rfl) (by kernel_rfl) (by kernel_rfl) (fun _ _ _ h => h) (Or.inl ⟨by kernel_rfl, ?_⟩) (z0) ?_
              · intro w hSw; go_simp <;> first | omega | (intro hh; exfalso; omega) | rfl
              try simp only [Act.put, List.setIfInBounds_toArray, List.set_cons_zero, List.set_cons_succ, vblk16_11]
              refine wpAnyH_take (i := 17) (oi := vblk16_17) (v := .int .i64 K) rfl (by kernel_rfl) (by kernel_rfl) (by kernel_rfl) (fun _ _ _ h => h) (Or.inl ⟨by kernel_rfl, ?_⟩) (z0) ?_
              · intro w hSw; go_simp <;> first | omega | (intro hh; exfalso; omega) | rfl
              try simp only [Act.put, List.setIfInBounds_toArray, List.set_cons_zero, List.set_cons_succ, vblk16_17]
              refine wpAnyH_take (i := 18) (oi := vblk16_18) (v := .int .i64 J3) rfl (by kernel_rfl) (by kernel_rfl) (by kernel_rfl) (fun _ _ _ h => h) (Or.inl ⟨by kernel_rfl, ?_⟩) (z0) ?_
              · intro w hSw; go_simp <;> first | omega | (intro hh; exfalso; omega) | rfl
              try simp only [Act.put, List.setIfInBounds_toArray, List.set_cons_zero, List.set_cons_succ, vblk16_18]
              refine wpAnyH_take (i := 19) (oi := vblk16_19) (v := .int .i64 I3) rfl (by kernel_rfl) (by kernel_rfl) (by kernel_rfl) (fun _ _ _ h => h) (Or.inl ⟨by kernel_rfl, ?_⟩) (z0) ?_
              · intro w hSw; go_simp <;> first | omega | (intro hh; exfalso; omega) | rfl
              try simp only [Act.put, List.setIfInBounds_toArray, List.set_cons_zero, List.set_cons_succ, vblk16_19]
              refine wpAnyH_ready (rs := [1, 9, 16]) (by kernel_rfl) (by simp) ?_
              apply AllReadyH.cons (o := vblk16_1) (by kernel_rfl)
              case h =>
                intro K' hK'
                simp only [vblk16_1]
                go_simp
                obtain ⟨W1, hW1⟩ : ∃ X, X = W0.alloc (.cells #[.string ⟨#[32]⟩, .string ⟨#[9]⟩, .string ⟨#[32, 32]⟩, .string ⟨#[32, 9]⟩] 9) := ⟨_, rfl⟩
                rw [← hW1]
                have y1 : Below W0.heap.size W0 W1 := by rw [hW1]; exact (Below.refl _ _).alloc (Nat.le_refl _) _
                have z1 := below_seq z0 y1
                obtain ⟨b1, hb1⟩ : ∃ b, b = W0.heap.size := ⟨_, rfl⟩
                have C1 : Hid (∀ W, Below W1.heap.size W1 W → W.cell? ⟨b1, I1, none⟩ = some (.string ⟨L1.toArray⟩)) := Lib.hid fun W hW => cell_keep (by rw [hW1, hb1, (Row.new _ _ _).cell]; exact HA1.out) hW
                rw [← hb1]
                clear hW1 hb1
                refine hK'.out _ _ (z1) (fun hHeld => ?_)
                clear hK' K' hHeld
                try simp only [Act.put, List.setIfInBounds_toArray, List.set_cons_zero, List.set_cons_succ]
                refine wpAnyH_weaken (S' := fun W => Below W1.heap.size W1 W) (fun W h => below_seq z1 h) _ _ _ _ ?_
                refine wpAnyH_take (i := 5) (oi := vblk16_5) (v := .pointer (some ⟨b1, I1, none⟩)) rfl (by kernel_rfl) (by kernel_rfl) (by kernel_rfl) (fun _ _ _ h => h) (Or.inl ⟨by kernel_rfl, ?_⟩) (Below.refl _ _) ?_
                · intro w hSw; go_simp <;> first | omega | (intro hh; exfalso; omega) | rfl
                try simp only [Act.put, List.setIfInBounds_toArray, List.set_cons_zero, List.set_cons_succ, vblk16_5]
                refine wpAnyH_take (i := 6) (oi := vblk16_6) (v := .string ⟨L1.toArray⟩) rfl (by kernel_rfl) (by kernel_rfl) (by kernel_rfl) (fun _ _ _ h => h) (Or.inl ⟨by kernel_rfl, ?_⟩) (Below.refl _ _) ?_
                · intro w hSw; have hcc := C1.out w hSw; go_simp <;> first | omega | (intro hh; exfalso; omega) | rfl
                try simp only [Act.put, List.setIfInBounds_toArray, List.set_cons_zero, List.set_cons_succ, vblk16_6]
                refine wpAnyH_take (i := 8) (oi := vblk16_8) (v := .string ⟨T8.toArray⟩) rfl (by kernel_rfl) (by kernel_rfl) (by kernel_rfl) (fun _ _ _ h => h) (Or.inl ⟨by kernel_rfl, ?_⟩) (Below.refl _ _) ?_
                · intro w hSw; go_simp <;> first | omega | (intro hh; exfalso; omega) | rfl
                try simp only [Act.put, List.setIfInBounds_toArray, List.set_cons_zero, List.set_cons_succ, vblk16_8]
                refine wpAnyH_ready (rs := [9, 16]) (by kernel_rfl) (by simp) ?_
                apply AllReadyH.cons (o := vblk16_9) (by kernel_rfl)
                case h =>
                  intro K' hK'
                  simp only [vblk16_9]
                  go_simp
                  obtain ⟨W2, hW2⟩ : ∃ X, X = W1.alloc (.cells #[.string ⟨#[32]⟩, .string ⟨#[9, 9]⟩] 9) := ⟨_, rfl⟩
                  rw [← hW2]
                  have y2 : Below W1.heap.size W1 W2 := by rw [hW2]; exact (Below.refl _ _).alloc (Nat.le_refl _) _
                  have z2 := below_seq z1 y2
                  obtain ⟨b2, hb2⟩ : ∃ b, b = W1.heap.size := ⟨_, rfl⟩
                  have C2 : Hid (∀ W, Below W2.heap.size W2 W → W.cell? ⟨b2, I2, none⟩ = some (.string ⟨L2.toArray⟩)) := Lib.hid fun W hW => cell_keep (by rw [hW2, hb2, (Row.new _ _ _).cell]; exact HA2.out) hW
                  rw [← hb2]
                  have C1_2 : Hid (∀ W, Below W2.heap.size W2 W → W.cell? ⟨b1, I1, none⟩ = some (.string ⟨L1.toArray⟩)) := Lib.hid fun W hW => C1.out W (below_seq y2 hW)
                  clear hW2 hb2
                  refine hK'.out _ _ (y2) (fun hHeld => ?_)
                  clear hK' K' hHeld
                  try simp only [Act.put, List.setIfInBounds_toArray, List.set_cons_zero, List.set_cons_succ]
                  refine wpAnyH_weaken (S' := fun W => Below W2.heap.size W2 W) (fun W h => below_seq y2 h) _ _ _ _ ?_
                  refine wpAnyH_take (i := 12) (oi := vblk16_12) (v := .pointer (some ⟨b2, I2, none⟩)) rfl (by kernel_rfl) (by kernel_rfl) (by kernel_rfl) (fun _ _ _ h => h) (Or.inl ⟨by kernel_rfl, ?_⟩) (Below.refl _ _) ?_
                  · intro w hSw; go_simp <;> first | omega | (intro hh; exfalso; omega) | rfl
                  try simp only [Act.put, List.setIfInBounds_toArray, List.set_cons_zero, List.set_cons_succ, vblk16_12]
                  refine wpAnyH_take (i := 13) (oi := vblk16_13) (v := .string ⟨L2.toArray⟩) rfl (by kernel_rfl) (by kernel_rfl) (by kernel_rfl) (fun _ _ _ h => h) (Or.inl ⟨by kernel_rfl, ?_⟩) (Below.refl _ _) ?_
                  · intro w hSw; have hcc := C2.out w hSw; go_simp <;> first | omega | (intro hh; exfalso; omega) | rfl
                  try simp only [Act.put, List.setIfInBounds_toArray, List.set_cons_zero, List.set_cons_succ, vblk16_13]
                  refine wpAnyH_take (i := 14) (oi := vblk16_14) (v := .string ⟨T14.toArray⟩) rfl (by kernel_rfl) (by kernel_rfl) (by kernel_rfl) (fun _ _ _ h => h) (Or.inl ⟨by kernel_rfl, ?_⟩) (Below.refl _ _) ?_
                  · intro w hSw; go_simp <;> first | omega | (intro hh; exfalso; omega) | rfl
                  try simp only [Act.put, List.setIfInBounds_toArray, List.set_cons_zero, List.set_cons_succ, vblk16_14]
                  refine wpAnyH_take (i := 15) (oi := vblk16_15) (v := .string ⟨T15.toArray⟩) rfl (by kernel_rfl) (by kernel_rfl) (by kernel_rfl) (fun _ _ _ h => h) (Or.inl ⟨by kernel_rfl, ?_⟩) (Below.refl _ _) ?_
                  · intro w hSw; go_simp <;> first | omega | (intro hh; exfalso; omega) | rfl
                  try simp only [Act.put, List.setIfInBounds_toArray, List.set_cons_zero, List.set_cons_succ, vblk16_15]
                  refine wpAnyH_ready (rs := [16]) (by kernel_rfl) (by simp) ?_
                  apply AllReadyH.cons (o := vblk16_16) (by kernel_rfl)
                  case hs => exact AllReadyH.nil
                  intro K' hK'
                  simp only [vblk16_16]
                  go_simp
                  obtain ⟨W3, hW3⟩ : ∃ X, X = W2.alloc (.cells #[.string ⟨#[10]⟩, .string ⟨#[13, 10]⟩] 9) := ⟨_, rfl⟩
                  rw [← hW3]
                  have y3 : Below W2.heap.size W2 W3 := by rw [hW3]; exact (Below.refl _ _).alloc (Nat.le_refl _) _
                  have z3 := below_seq z2 y3
                  obtain ⟨b3, hb3⟩ : ∃ b, b = W2.heap.size := ⟨_, rfl⟩
                  have C3 : Hid (∀ W, Below W3.heap.size W3 W → W.cell? ⟨b3, I3, none⟩ = some (.string ⟨L3.toArray⟩)) := Lib.hid fun W hW => cell_keep (by rw [hW3, hb3, (Row.new _ _ _).cell]; exact HA3.out) hW
                  rw [← hb3]
                  have C1_2_3 : Hid (∀ W, Below W3.heap.size W3 W → W.cell? ⟨b1, I1, none⟩ = some (.string ⟨L1.toArray⟩)) := Lib.hid fun W hW => C1_2.out W (below_seq y3 hW)
                  have C2_3 : Hid (∀ W, Below W3.heap.size W3 W → W.cell? ⟨b2, I2, none⟩ = some (.string ⟨L2.toArray⟩)) := Lib.hid fun W hW => C2.out W (below_seq y3 hW)
                  clear hW3 hb3
                  refine hK'.out _ _ (y3) (fun hHeld => ?_)
                  clear hK' K' hHeld
                  try simp only [Act.put, List.setIfInBounds_toArray, List.set_cons_zero, List.set_cons_succ]
                  refine wpAnyH_weaken (S' := fun W => Below W3.heap.size W3 W) (fun W h => below_seq y3 h) _ _ _ _ ?_
                  refine wpAnyH_take (i := 20) (oi := vblk16_20) (v := .pointer (some ⟨b3, I3, none⟩)) rfl (by kernel_rfl) (by kernel_rfl) (by kernel_rfl) (fun _ _ _ h => h) (Or.inl ⟨by kernel_rfl, ?_⟩) (Below.refl _ _) ?_
                  · intro w hSw; go_simp <;> first | omega | (intro hh; exfalso; omega) | rfl
                  try simp only [Act.put, List.setIfInBounds_toArray, List.set_cons_zero, List.set_cons_succ, vblk16_20]
                  refine wpAnyH_take (i := 21) (oi := vblk16_21) (v := .string ⟨L3.toArray⟩) rfl (by kernel_rfl) (by kernel_rfl) (by kernel_rfl) (fun _ _ _ h => h) (Or.inl ⟨by kernel_rfl, ?_⟩) (Below.refl _ _) ?_
                  · intro w hSw; have hcc := C3.out w hSw; go_simp <;> first | omega | (intro hh; exfalso; omega) | rfl
                  try simp only [Act.put, List.setIfInBounds_toArray, List.set_cons_zero, List.set_cons_succ, vblk16_21]
                  refine wpAnyH_take (i := 22) (oi := vblk16_22) (v := .string ⟨T22.toArray⟩) rfl (by kernel_rfl) (by kernel_rfl) (by kernel_rfl) (fun _ _ _ h => h) (Or.inl ⟨by kernel_rfl, ?_⟩) (Below.refl _ _) ?_
                  · intro w hSw; go_simp <;> first | omega | (intro hh; exfalso; omega) | rfl
                  try simp only [Act.put, List.setIfInBounds_toArray, List.set_cons_zero, List.set_cons_succ, vblk16_22]
                  refine wpAnyH_take (i := 23) (oi := vblk16_23) (v := .string ⟨T23.toArray⟩) rfl (by kernel_rfl) (by kernel_rfl) (by kernel_rfl) (fun _ _ _ h => h) (Or.inl ⟨by kernel_rfl, ?_⟩) (Below.refl _ _) ?_
                  · intro w hSw; go_simp <;> first | omega | (intro hh; exfalso; omega) | rfl
                  try simp only [Act.put, List.setIfInBounds_toArray, List.set_cons_zero, List.set_cons_succ, vblk16_23]
                  refine wpAnyH_take (i := 24) (oi := vblk16_24) (v := .string ⟨T23.toArray⟩) rfl (by kernel_rfl) (by kernel_rfl) (by kernel_rfl) (fun _ _ _ h => h) (Or.inl ⟨by kernel_rfl, ?_⟩) (Below.refl _ _) ?_
                  · intro w hSw; go_simp <;> first | omega | (intro hh; exfalso; omega) | rfl
                  try simp only [Act.put, List.setIfInBounds_toArray, List.set_cons_zero, List.set_cons_succ, vblk16_24]
                  refine wpAnyH_done (by kernel_rfl) ?_ _
                  go_wp2_with fail
                  go_meet
                  exact ⟨rfl, Lib.hid (z3)⟩
                apply AllReadyH.cons (o := vblk16_16) (by kernel_rfl)
                case h =>
                  intro K' hK'
                  simp only [vblk16_16]
                  go_simp
                  obtain ⟨W4, hW4⟩ : ∃ X, X = W1.alloc (.cells #[.string ⟨#[10]⟩, .string ⟨#[13, 10]⟩] 9) := ⟨_, rfl⟩
                  rw [← hW4]
                  have y4 : Below W1.heap.size W1 W4 := by rw [hW4]; exact (Below.refl _ _).alloc (Nat.le_refl _) _
                  have z4 := below_seq z1 y4
                  obtain ⟨b4, hb4⟩ : ∃ b, b = W1.heap.size := ⟨_, rfl⟩
                  have C4 : Hid (∀ W, Below W4.heap.size W4 W → W.cell? ⟨b4, I3, none⟩ = some (.string ⟨L3.toArray⟩)) := Lib.hid fun W hW => cell_keep (by rw [hW4, hb4, (Row.new _ _ _).cell]; exact HA3.out) hW
                  rw [← hb4]
                  have C1_4 : Hid (∀ W, Below W4.heap.size W4 W → W.cell? ⟨b1, I1, none⟩ = some (.string ⟨L1.toArray⟩)) := Lib.hid fun W hW => C1.out W (below_seq y4 hW)
                  clear hW4 hb4
                  refine hK'.out _ _ (y4) (fun hHeld => ?_)
                  clear hK' K' hHeld
                  try simp only [Act.put, List.setIfInBounds_toArray, List.set_cons_zero, List.set_cons_succ]
                  refine wpAnyH_weaken (S' := fun W => Below W4.heap.size W4 W) (fun W h => below_seq y4 h) _ _ _ _ ?_
                  refine wpAnyH_take (i := 20) (oi := vblk16_20) (v := .pointer (some ⟨b4, I3, none⟩)) rfl (by kernel_rfl) (by kernel_rfl) (by kernel_rfl) (fun _ _ _ h => h) (Or.inl ⟨by kernel_rfl, ?_⟩) (Below.refl _ _) ?_
                  · intro w hSw; go_simp <;> first | omega | (intro hh; exfalso; omega) | rfl
                  try simp only [Act.put, List.setIfInBounds_toArray, List.set_cons_zero, List.set_cons_succ, vblk16_20]
                  refine wpAnyH_take (i := 21) (oi := vblk16_21) (v := .string ⟨L3.toArray⟩) rfl (by kernel_rfl) (by kernel_rfl) (by kernel_rfl) (fun _ _ _ h => h) (Or.inl ⟨by kernel_rfl, ?_⟩) (Below.refl _ _) ?_
                  · intro w hSw; have hcc := C4.out w hSw; go_simp <;> first | omega | (intro hh; exfalso; omega) | rfl
                  try simp only [Act.put, List.setIfInBounds_toArray, List.set_cons_zero, List.set_cons_succ, vblk16_21]
                  refine wpAnyH_ready (rs := [9]) (by kernel_rfl) (by simp) ?_
                  apply AllReadyH.cons (o := vblk16_9) (by kernel_rfl)
                  case hs => exact AllReadyH.nil
                  intro K' hK'
                  simp only [vblk16_9]
                  go_simp
                  obtain ⟨W5, hW5⟩ : ∃ X, X = W4.alloc (.cells #[.string ⟨#[32]⟩, .string ⟨#[9, 9]⟩] 9) := ⟨_, rfl⟩
                  rw [← hW5]
                  have y5 : Below W4.heap.size W4 W5 := by rw [hW5]; exact (Below.refl _ _).alloc (Nat.le_refl _) _
                  have z5 := below_seq z4 y5
                  obtain ⟨b5, hb5⟩ : ∃ b, b = W4.heap.size := ⟨_, rfl⟩
                  have C5 : Hid (∀ W, Below W5.heap.size W5 W → W.cell? ⟨b5, I2, none⟩ = some (.string ⟨L2.toArray⟩)) := Lib.hid fun W hW => cell_keep (by rw [hW5, hb5, (Row.new _ _ _).cell]; exact HA2.out) hW
                  rw [← hb5]
                  have C1_4_5 : Hid (∀ W, Below W5.heap.size W5 W → W.cell? ⟨b1, I1, none⟩ = some (.string ⟨L1.toArray⟩)) := Lib.hid fun W hW => C1_4.out W (below_seq y5 hW)
                  have C4_5 : Hid (∀ W, Below W5.heap.size W5 W → W.cell? ⟨b4, I3, none⟩ = some (.string ⟨L3.toArray⟩)) := Lib.hid fun W hW => C4.out W (below_seq y5 hW)
                  clear hW5 hb5
                  refine hK'.out _ _ (y5) (fun hHeld => ?_)
                  clear hK' K' hHeld
                  try simp only [Act.put, List.setIfInBounds_toArray, List.set_cons_zero, List.set_cons_succ]
                  refine wpAnyH_weaken (S' := fun W => Below W5.heap.size W5 W) (fun W h => below_seq y5 h) _ _ _ _ ?_
                  refine wpAnyH_take (i := 12) (oi := vblk16_12) (v := .pointer (some ⟨b5, I2, none⟩)) rfl (by kernel_rfl) (by kernel_rfl) (by kernel_rfl) (fun _ _ _ h => h) (Or.inl ⟨by kernel_rfl, ?_⟩) (Below.refl _ _) ?_
                  · intro w hSw; go_simp <;> first | omega | (intro hh; exfalso; omega) | rfl
                  try simp only [Act.put, List.setIfInBounds_toArray, List.set_cons_zero, List.set_cons_succ, vblk16_12]
                  refine wpAnyH_take (i := 13) (oi := vblk16_13) (v := .string ⟨L2.toArray⟩) rfl (by kernel_rfl) (by kernel_rfl) (by kernel_rfl) (fun _ _ _ h => h) (Or.inl ⟨by kernel_rfl, ?_⟩) (Below.refl _ _) ?_
                  · intro w hSw; have hcc := C5.out w hSw; go_simp <;> first | omega | (intro hh; exfalso; omega) | rfl
                  try simp only [Act.put, List.setIfInBounds_toArray, List.set_cons_zero, List.set_cons_succ, vblk16_13]
                  refine wpAnyH_take (i := 14) (oi := vblk16_14) (v := .string ⟨T14.toArray⟩) rfl (by kernel_rfl) (by kernel_rfl) (by kernel_rfl) (fun _ _ _ h => h) (Or.inl ⟨by kernel_rfl, ?_⟩) (Below.refl _ _) ?_
                  · intro w hSw; go_simp <;> first | omega | (intro hh; exfalso; omega) | rfl
                  try simp only [Act.put, List.setIfInBounds_toArray, List.set_cons_zero, List.set_cons_succ, vblk16_14]
                  refine wpAnyH_take (i := 15) (oi := vblk16_15) (v := .string ⟨T15.toArray⟩) rfl (by kernel_rfl) (by kernel_rfl) (by kernel_rfl) (fun _ _ _ h => h) (Or.inl ⟨by kernel_rfl, ?_⟩) (Below.refl _ _) ?_
                  · intro w hSw; go_simp <;> first | omega | (intro hh; exfalso; omega) | rfl
                  try simp only [Act.put, List.setIfInBounds_toArray, List.set_cons_zero, List.set_cons_succ, vblk16_15]
                  refine wpAnyH_take (i := 22) (oi := vblk16_22) (v := .string ⟨T22.toArray⟩) rfl (by kernel_rfl) (by kernel_rfl) (by kernel_rfl) (fun _ _ _ h => h) (Or.inl ⟨by kernel_rfl, ?_⟩) (Below.refl _ _) ?_
                  · intro w hSw; go_simp <;> first | omega | (intro hh; exfalso; omega) | rfl
                  try simp only [Act.put, List.setIfInBounds_toArray, List.set_cons_zero, List.set_cons_succ, vblk16_22]
                  refine wpAnyH_take (i := 23) (oi := vblk16_23) (v := .string ⟨T23.toArray⟩) rfl (by kernel_rfl) (by kernel_rfl) (by kernel_rfl) (fun _ _ _ h => h) (Or.inl ⟨by kernel_rfl, ?_⟩) (Below.refl _ _) ?_
                  · intro w hSw; go_simp <;> first | omega | (intro hh; exfalso; omega) | rfl
                  try simp only [Act.put, List.setIfInBounds_toArray, List.set_cons_zero, List.set_cons_succ, vblk16_23]
                  refine wpAnyH_take (i := 24) (oi := vblk16_24) (v := .string ⟨T23.toArray⟩) rfl (by kernel_rfl) (by kernel_rfl) (by kernel_rfl) (fun _ _ _ h => h) (Or.inl ⟨by kernel_rfl, ?_⟩) (Below.refl _ _) ?_
                  · intro w hSw; go_simp <;> first | omega | (intro hh; exfalso; omega) | rfl
                  try simp only [Act.put, List.setIfInBounds_toArray, List.set_cons_zero, List.set_cons_succ, vblk16_24]
                  refine wpAnyH_done (by kernel_rfl) ?_ _
                  go_wp2_with fail
                  go_meet
                  exact ⟨rfl, Lib.hid (z5)⟩
                exact AllReadyH.nil
              apply AllReadyH.cons (o := vblk16_9) (by kernel_rfl)
              case h =>
                intro K' hK'
                simp only [vblk16_9]
                go_simp
                obtain ⟨W6, hW6⟩ : ∃ X, X = W0.alloc (.cells #[.string ⟨#[32]⟩, .string ⟨#[9, 9]⟩] 9) := ⟨_, rfl⟩
                rw [← hW6]
                have y6 : Below W0.heap.size W0 W6 := by rw [hW6]; exact (Below.refl _ _).alloc (Nat.le_refl _) _
                have z6 := below_seq z0 y6
                obtain ⟨b6, hb6⟩ : ∃ b, b = W0.heap.size := ⟨_, rfl⟩
                have C6 : Hid (∀ W, Below W6.heap.size W6 W → W.cell? ⟨b6, I2, none⟩ = some (.string ⟨L2.toArray⟩)) := Lib.hid fun W hW => cell_keep (by rw [hW6, hb6, (Row.new _ _ _).cell]; exact HA2.out) hW
                rw [← hb6]
                clear hW6 hb6
                refine hK'.out _ _ (z6) (fun hHeld => ?_)
                clear hK' K' hHeld
                try simp only [Act.put, List.setIfInBounds_toArray, List.set_cons_zero, List.set_cons_succ]
                refine wpAnyH_weaken (S' := fun W => Below W6.heap.size W6 W) (fun W h => below_seq z6 h) _ _ _ _ ?_
                refine wpAnyH_take (i := 12) (oi := vblk16_12) (v := .pointer (some ⟨b6, I2, none⟩)) rfl (by kernel_rfl) (by kernel_rfl) (by kernel_rfl) (fun _ _ _ h => h) (Or.inl ⟨by kernel_rfl, ?_⟩) (Below.refl _ _) ?_
                · intro w hSw; go_simp <;> first | omega | (intro hh; exfalso; omega) | rfl
                try simp only [Act.put, List.setIfInBounds_toArray, List.set_cons_zero, List.set_cons_succ, vblk16_12]
                refine wpAnyH_take (i := 13) (oi := vblk16_13) (v := .string ⟨L2.toArray⟩) rfl (by kernel_rfl) (by kernel_rfl) (by kernel_rfl) (fun _ _ _ h => h) (Or.inl ⟨by kernel_rfl, ?_⟩) (Below.refl _ _) ?_
                · intro w hSw; have hcc := C6.out w hSw; go_simp <;> first | omega | (intro hh; exfalso; omega) | rfl
                try simp only [Act.put, List.setIfInBounds_toArray, List.set_cons_zero, List.set_cons_succ, vblk16_13]
                refine wpAnyH_ready (rs := [1, 16]) (by kernel_rfl) (by simp) ?_
                apply AllReadyH.cons (o := vblk16_1) (by kernel_rfl)
                case h =>
                  intro K' hK'
                  simp only [vblk16_1]
                  go_simp
                  obtain ⟨W7, hW7⟩ : ∃ X, X = W6.alloc (.cells #[.string ⟨#[32]⟩, .string ⟨#[9]⟩, .string ⟨#[32, 32]⟩, .string ⟨#[32, 9]⟩] 9) := ⟨_, rfl⟩
                  rw [← hW7]
                  have y7 : Below W6.heap.size W6 W7 := by rw [hW7]; exact (Below.refl _ _).alloc (Nat.le_refl _) _
                  have z7 := below_seq z6 y7
                  obtain ⟨b7, hb7⟩ : ∃ b, b = W6.heap.size := ⟨_, rfl⟩
                  have C7 : Hid (∀ W, Below W7.heap.size W7 W → W.cell? ⟨b7, I1, none⟩ = some (.string ⟨L1.toArray⟩)) := Lib.hid fun W hW => cell_keep (by rw [hW7, hb7, (Row.new _ _ _).cell]; exact HA1.out) hW
                  rw [← hb7]
                  have C6_7 : Hid (∀ W, Below W7.heap.size W7 W → W.cell? ⟨b6, I2, none⟩ = some (.string ⟨L2.toArray⟩)) := Lib.hid fun W hW => C6.out W (below_seq y7 hW)
                  clear hW7 hb7
                  refine hK'.out _ _ (y7) (fun hHeld => ?_)
                  clear hK' K' hHeld
                  try simp only [Act.put, List.setIfInBounds_toArray, List.set_cons_zero, List.set_cons_succ]
                  refine wpAnyH_weaken (S' := fun W => Below W7.heap.size W7 W) (fun W h => below_seq y7 h) _ _ _ _ ?_
                  refine wpAnyH_take (i := 5) (oi := vblk16_5) (v := .pointer (some ⟨b7, I1, none⟩)) rfl (by kernel_rfl) (by kernel_rfl) (by kernel_rfl) (fun _ _ _ h => h) (Or.inl ⟨by kernel_rfl, ?_⟩) (Below.refl _ _) ?_
                  · intro w hSw; go_simp <;> first | omega | (intro hh; exfalso; omega) | rfl
                  try simp only [Act.put, List.setIfInBounds_toArray, List.set_cons_zero, List.set_cons_succ, vblk16_5]
                  refine wpAnyH_take (i := 6) (oi := vblk16_6) (v := .string ⟨L1.toArray⟩) rfl (by kernel_rfl) (by kernel_rfl) (by kernel_rfl) (fun _ _ _ h => h) (Or.inl ⟨by kernel_rfl, ?_⟩) (Below.refl _ _) ?_
                  · intro w hSw; have hcc := C7.out w hSw; go_simp <;> first | omega | (intro hh; exfalso; omega) | rfl
                  try simp only [Act.put, List.setIfInBounds_toArray, List.set_cons_zero, List.set_cons_succ, vblk16_6]
                  refine wpAnyH_take (i := 8) (oi := vblk16_8) (v := .string ⟨T8.toArray⟩) rfl (by kernel_rfl) (by kernel_rfl) (by kernel_rfl) (fun _ _ _ h => h) (Or.inl ⟨by kernel_rfl, ?_⟩) (Below.refl _ _) ?_
                  · intro w hSw; go_simp <;> first | omega | (intro hh; exfalso; omega) | rfl
                  try simp only [Act.put, List.setIfInBounds_toArray, List.set_cons_zero, List.set_cons_succ, vblk16_8]
                  refine wpAnyH_take (i := 14) (oi := vblk16_14) (v := .string ⟨T14.toArray⟩) rfl (by kernel_rfl) (by kernel_rfl) (by kernel_rfl) (fun _ _ _ h => h) (Or.inl ⟨by kernel_rfl, ?_⟩) (Below.refl _ _) ?_
                  · intro w hSw; go_simp <;> first | omega | (intro hh; exfalso; omega) | rfl
                  try simp only [Act.put, List.setIfInBounds_toArray, List.set_cons_zero, List.set_cons_succ, vblk16_14]
                  refine wpAnyH_take (i := 15) (oi := vblk16_15) (v := .string ⟨T15.toArray⟩) rfl (by kernel_rfl) (by kernel_rfl) (by kernel_rfl) (fun _ _ _ h => h) (Or.inl ⟨by kernel_rfl, ?_⟩) (Below.refl _ _) ?_
                  · intro w hSw; go_simp <;> first | omega | (intro hh; exfalso; omega) | rfl
                  try simp only [Act.put, List.setIfInBounds_toArray, List.set_cons_zero, List.set_cons_succ, vblk16_15]
                  refine wpAnyH_ready (rs := [16]) (by kernel_rfl) (by simp) ?_
                  apply AllReadyH.cons (o := vblk16_16) (by kernel_rfl)
                  case hs => exact AllReadyH.nil
                  intro K' hK'
                  simp only [vblk16_16]
                  go_simp
                  obtain ⟨W8, hW8⟩ : ∃ X, X = W7.alloc (.cells #[.string ⟨#[10]⟩, .string ⟨#[13, 10]⟩] 9) := ⟨_, rfl⟩
                  rw [← hW8]
                  have y8 : Below W7.heap.size W7 W8 := by rw [hW8]; exact (Below.refl _ _).alloc (Nat.le_refl _) _
                  have z8 := below_seq z7 y8
                  obtain ⟨b8, hb8⟩ : ∃ b, b = W7.heap.size := ⟨_, rfl⟩
                  have C8 : Hid (∀ W, Below W8.heap.size W8 W → W.cell? ⟨b8, I3, none⟩ = some (.string ⟨L3.toArray⟩)) := Lib.hid fun W hW => cell_keep (by rw [hW8, hb8, (Row.new _ _ _).cell]; exact HA3.out) hW
                  rw [← hb8]
                  have C6_7_8 : Hid (∀ W, Below W8.heap.size W8 W → W.cell? ⟨b6, I2, none⟩ = some (.string ⟨L2.toArray⟩)) := Lib.hid fun W hW => C6_7.out W (below_seq y8 hW)
                  have C7_8 : Hid (∀ W, Below W8.heap.size W8 W → W.cell? ⟨b7, I1, none⟩ = some (.string ⟨L1.toArray⟩)) := Lib.hid fun W hW => C7.out W (below_seq y8 hW)
                  clear hW8 hb8
                  refine hK'.out _ _ (y8) (fun hHeld => ?_)
                  clear hK' K' hHeld
                  try simp only [Act.put, List.setIfInBounds_toArray, List.set_cons_zero, List.set_cons_succ]
                  refine wpAnyH_weaken (S' := fun W => Below W8.heap.size W8 W) (fun W h => below_seq y8 h) _ _ _ _ ?_
                  refine wpAnyH_take (i := 20) (oi := vblk16_20) (v := .pointer (some ⟨b8, I3, none⟩)) rfl (by kernel_rfl) (by kernel_rfl) (by kernel_rfl) (fun _ _ _ h => h) (Or.inl ⟨by kernel_rfl, ?_⟩) (Below.refl _ _) ?_
                  · intro w hSw; go_simp <;> first | omega | (intro hh; exfalso; omega) | rfl
                  try simp only [Act.put, List.setIfInBounds_toArray, List.set_cons_zero, List.set_cons_succ, vblk16_20]
                  refine wpAnyH_take (i := 21) (oi := vblk16_21) (v := .string ⟨L3.toArray⟩) rfl (by kernel_rfl) (by kernel_rfl) (by kernel_rfl) (fun _ _ _ h => h) (Or.inl ⟨by kernel_rfl, ?_⟩) (Below.refl _ _) ?_
                  · intro w hSw; have hcc := C8.out w hSw; go_simp <;> first | omega | (intro hh; exfalso; omega) | rfl
                  try simp only [Act.put, List.setIfInBounds_toArray, List.set_cons_zero, List.set_cons_succ, vblk16_21]
                  refine wpAnyH_take (i := 22) (oi := vblk16_22) (v := .string ⟨T22.toArray⟩) rfl (by kernel_rfl) (by kernel_rfl) (by kernel_rfl) (fun _ _ _ h => h) (Or.inl ⟨by kernel_rfl, ?_⟩) (Below.refl _ _) ?_
                  · intro w hSw; go_simp <;> first | omega | (intro hh; exfalso; omega) | rfl
                  try simp only [Act.put, List.setIfInBounds_toArray, List.set_cons_zero, List.set_cons_succ, vblk16_22]
                  refine wpAnyH_take (i := 23) (oi := vblk16_23) (v := .string ⟨T23.toArray⟩) rfl (by kernel_rfl) (by kernel_rfl) (by kernel_rfl) (fun _ _ _ h => h) (Or.inl ⟨by kernel_rfl, ?_⟩) (Below.refl _ _) ?_
                  · intro w hSw; go_simp <;> first | omega | (intro hh; exfalso; omega) | rfl
                  try simp only [Act.put, List.setIfInBounds_toArray, List.set_cons_zero, List.set_cons_succ, vblk16_23]
                  refine wpAnyH_take (i := 24) (oi := vblk16_24) (v := .string ⟨T23.toArray⟩) rfl (by kernel_rfl) (by kernel_rfl) (by kernel_rfl) (fun _ _ _ h => h) (Or.inl ⟨by kernel_rfl, ?_⟩) (Below.refl _ _) ?_
                  · intro w hSw; go_simp <;> first | omega | (intro hh; exfalso; omega) | rfl
                  try simp only [Act.put, List.setIfInBounds_toArray, List.set_cons_zero, List.set_cons_succ, vblk16_24]
                  refine wpAnyH_done (by kernel_rfl) ?_ _
                  go_wp2_with fail
                  go_meet
                  exact ⟨rfl, Lib.hid (z8)⟩
                apply AllReadyH.cons (o := vblk16_16) (by kernel_rfl)
                case h =>
                  intro K' hK'
                  simp only [vblk16_16]
                  go_simp
                  obtain ⟨W9, hW9⟩ : ∃ X, X = W6.alloc (.cells #[.string ⟨#[10]⟩, .string ⟨#[13, 10]⟩] 9) := ⟨_, rfl⟩
                  rw [← hW9]
                  have y9 : Below W6.heap.size W6 W9 := by rw [hW9]; exact (Below.refl _ _).alloc (Nat.le_refl _) _
                  have z9 := below_seq z6 y9
                  obtain ⟨b9, hb9⟩ : ∃ b, b = W6.heap.size := ⟨_, rfl⟩
                  have C9 : Hid (∀ W, Below W9.heap.size W9 W → W.cell? ⟨b9, I3, none⟩ = some (.string ⟨L3.toArray⟩)) := Lib.hid fun W hW => cell_keep (by rw [hW9, hb9, (Row.new _ _ _).cell]; exact HA3.out) hW
                  rw [← hb9]
                  have C6_9 : Hid (∀ W, Below W9.heap.size W9 W → W.cell? ⟨b6, I2, none⟩ = some (.string ⟨L2.toArray⟩)) := Lib.hid fun W hW => C6.out W (below_seq y9 hW)
                  clear hW9 hb9
                  refine hK'.out _ _ (y9) (fun hHeld => ?_)
                  clear hK' K' hHeld
                  try simp only [Act.put, List.setIfInBounds_toArray, List.set_cons_zero, List.set_cons_succ]
                  refine wpAnyH_weaken (S' := fun W => Below W9.heap.size W9 W) (fun W h => below_seq y9 h) _ _ _ _ ?_
                  refine wpAnyH_take (i := 20) (oi := vblk16_20) (v := .pointer (some ⟨b9, I3, none⟩)) rfl (by kernel_rfl) (by kernel_rfl) (by kernel_rfl) (fun _ _ _ h => h) (Or.inl ⟨by kernel_rfl, ?_⟩) (Below.refl _ _) ?_
                  · intro w hSw; go_simp <;> first | omega | (intro hh; exfalso; omega) | rfl
                  try simp only [Act.put, List.setIfInBounds_toArray, List.set_cons_zero, List.set_cons_succ, vblk16_20]
                  refine wpAnyH_take (i := 21) (oi := vblk16_21) (v := .string ⟨L3.toArray⟩) rfl (by kernel_rfl) (by kernel_rfl) (by kernel_rfl) (fun _ _ _ h => h) (Or.inl ⟨by kernel_rfl, ?_⟩) (Below.refl _ _) ?_
                  · intro w hSw; have hcc := C9.out w hSw; go_simp <;> first | omega | (intro hh; exfalso; omega) | rfl
                  try simp only [Act.put, List.setIfInBounds_toArray, List.set_cons_zero, List.set_cons_succ, vblk16_21]
                  refine wpAnyH_ready (rs := [1]) (by kernel_rfl) (by simp) ?_
                  apply AllReadyH.cons (o := vblk16_1) (by kernel_rfl)
                  case hs => exact AllReadyH.nil
                  intro K' hK'
                  simp only [vblk16_1]
                  go_simp
                  obtain ⟨W10, hW10⟩ : ∃ X, X = W9.alloc (.cells #[.string ⟨#[32]⟩, .string ⟨#[9]⟩, .string ⟨#[32, 32]⟩, .string ⟨#[32, 9]⟩] 9) := ⟨_, rfl⟩
                  rw [← hW10]
                  have y10 : Below W9.heap.size W9 W10 := by rw [hW10]; exact (Below.refl _ _).alloc (Nat.le_refl _) _
                  have z10 := below_seq z9 y10
                  obtain ⟨b10, hb10⟩ : ∃ b, b = W9.heap.size := ⟨_, rfl⟩
                  have C10 : Hid (∀ W, Below W10.heap.size W10 W → W.cell? ⟨b10, I1, none⟩ = some (.string ⟨L1.toArray⟩)) := Lib.hid fun W hW => cell_keep (by rw [hW10, hb10, (Row.new _ _ _).cell]; exact HA1.out) hW
                  rw [← hb10]
                  have C6_9_10 : Hid (∀ W, Below W10.heap.size W10 W → W.cell? ⟨b6, I2, none⟩ = some (.string ⟨L2.toArray⟩)) := Lib.hid fun W hW => C6_9.out W (below_seq y10 hW)
                  have C9_10 : Hid (∀ W, Below W10.heap.size W10 W → W.cell? ⟨b9, I3, none⟩ = some (.string ⟨L3.toArray⟩)) := Lib.hid fun W hW => C9.out W (below_seq y10 hW)
                  clear hW10 hb10
                  refine hK'.out _ _ (y10) (fun hHeld => ?_)
                  clear hK' K' hHeld
                  try simp only [Act.put, List.setIfInBounds_toArray, List.set_cons_zero, List.set_cons_succ]
                  refine wpAnyH_weaken (S' := fun W => Below W10.heap.size W10 W) (fun W h => below_seq y10 h) _ _ _ _ ?_
                  refine wpAnyH_take (i := 5) (oi := vblk16_5) (v := .pointer (some ⟨b10, I1, none⟩)) rfl (by kernel_rfl) (by kernel_rfl) (by kernel_rfl) (fun _ _ _ h => h) (Or.inl ⟨by kernel_rfl, ?_⟩) (Below.refl _ _) ?_
                  · intro w hSw; go_simp <;> first | omega | (intro hh; exfalso; omega) | rfl
                  try simp only [Act.put, List.setIfInBounds_toArray, List.set_cons_zero, List.set_cons_succ, vblk16_5]
                  refine wpAnyH_take (i := 6) (oi := vblk16_6) (v := .string ⟨L1.toArray⟩) rfl (by kernel_rfl) (by kernel_rfl) (by kernel_rfl) (fun _ _ _ h => h) (Or.inl ⟨by kernel_rfl, ?_⟩) (Below.refl _ _) ?_
                  · intro w hSw; have hcc := C10.out w hSw; go_simp <;> first | omega | (intro hh; exfalso; omega) | rfl
                  try simp only [Act.put, List.setIfInBounds_toArray, List.set_cons_zero, List.set_cons_succ, vblk16_6]
                  refine wpAnyH_take (i := 8) (oi := vblk16_8) (v := .string ⟨T8.toArray⟩) rfl (by kernel_rfl) (by kernel_rfl) (by kernel_rfl) (fun _ _ _ h => h) (Or.inl ⟨by kernel_rfl, ?_⟩) (Below.refl _ _) ?_
                  · intro w hSw; go_simp <;> first | omega | (intro hh; exfalso; omega) | rfl
                  try simp only [Act.put, List.setIfInBounds_toArray, List.set_cons_zero, List.set_cons_succ, vblk16_8]
                  refine wpAnyH_take (i := 14) (oi := vblk16_14) (v := .string ⟨T14.toArray⟩) rfl (by kernel_rfl) (by kernel_rfl) (by kernel_rfl) (fun _ _ _ h => h) (Or.inl ⟨by kernel_rfl, ?_⟩) (Below.refl _ _) ?_
                  · intro w hSw; go_simp <;> first | omega | (intro hh; exfalso; omega) | rfl
                  try simp only [Act.put, List.setIfInBounds_toArray, List.set_cons_zero, List.set_cons_succ, vblk16_14]
                  refine wpAnyH_take (i := 15) (oi := vblk16_15) (v := .string ⟨T15.toArray⟩) rfl (by kernel_rfl) (by kernel_rfl) (by kernel_rfl) (fun _ _ _ h => h) (Or.inl ⟨by kernel_rfl, ?_⟩) (Below.refl _ _) ?_
                  · intro w hSw; go_simp <;> first | omega | (intro hh; exfalso; omega) | rfl
                  try simp only [Act.put, List.setIfInBounds_toArray, List.set_cons_zero, List.set_cons_succ, vblk16_15]
                  refine wpAnyH_take (i := 22) (oi := vblk16_22) (v := .string ⟨T22.toArray⟩) rfl (by kernel_rfl) (by kernel_rfl) (by kernel_rfl) (fun _ _ _ h => h) (Or.inl ⟨by kernel_rfl, ?_⟩) (Below.refl _ _) ?_
                  · intro w hSw; go_simp <;> first | omega | (intro hh; exfalso; omega) | rfl
                  try simp only [Act.put, List.setIfInBounds_toArray, List.set_cons_zero, List.set_cons_succ, vblk16_22]
                  refine wpAnyH_take (i := 23) (oi := vblk16_23) (v := .string ⟨T23.toArray⟩) rfl (by kernel_rfl) (by kernel_rfl) (by kernel_rfl) (fun _ _ _ h => h) (Or.inl ⟨by kernel_rfl, ?_⟩) (Below.refl _ _) ?_
                  · intro w hSw; go_simp <;> first | omega | (intro hh; exfalso; omega) | rfl
                  try simp only [Act.put, List.setIfInBounds_toArray, List.set_cons_zero, List.set_cons_succ, vblk16_23]
                  refine wpAnyH_take (i := 24) (oi := vblk16_24) (v := .string ⟨T23.toArray⟩) rfl (by kernel_rfl) (by kernel_rfl) (by kernel_rfl) (fun _ _ _ h => h) (Or.inl ⟨by kernel_rfl, ?_⟩) (Below.refl _ _) ?_
                  · intro w hSw; go_simp <;> first | omega | (intro hh; exfalso; omega) | rfl
                  try simp only [Act.put, List.setIfInBounds_toArray, List.set_cons_zero, List.set_cons_succ, vblk16_24]
                  refine wpAnyH_done (by kernel_rfl) ?_ _
                  go_wp2_with fail
                  go_meet
                  exact ⟨rfl, Lib.hid (z10)⟩
                exact AllReadyH.nil
              apply AllReadyH.cons (o := vblk16_16) (by kernel_rfl)
              case h =>
                intro K' hK'
                simp only [vblk16_16]
                go_simp
                obtain ⟨W11, hW11⟩ : ∃ X, X = W0.alloc (.cells #[.string ⟨#[10]⟩, .string ⟨#[13, 10]⟩] 9) := ⟨_, rfl⟩
                rw [← hW11]
                have y11 : Below W0.heap.size W0 W11 := by rw [hW11]; exact (Below.refl _ _).alloc (Nat.le_refl _) _
                have z11 := below_seq z0 y11
                obtain ⟨b11, hb11⟩ : ∃ b, b = W0.heap.size := ⟨_, rfl⟩
                have C11 : Hid (∀ W, Below W11.heap.size W11 W → W.cell? ⟨b11, I3, none⟩ = some (.string ⟨L3.toArray⟩)) := Lib.hid fun W hW => cell_keep (by rw [hW11, hb11, (Row.new _ _ _).cell]; exact HA3.out) hW
                rw [← hb11]
                clear hW11 hb11
                refine hK'.out _ _ (z11) (fun hHeld => ?_)
                clear hK' K' hHeld
                try simp only [Act.put, List.setIfInBounds_toArray, List.set_cons_zero, List.set_cons_succ]
                refine wpAnyH_weaken (S' := fun W => Below W11.heap.size W11 W) (fun W h => below_seq z11 h) _ _ _ _ ?_
                refine wpAnyH_take (i := 20) (oi := vblk16_20) (v := .pointer (some ⟨b11, I3, none⟩)) rfl (by kernel_rfl) (by kernel_rfl) (by kernel_rfl) (fun _ _ _ h => h) (Or.inl ⟨by kernel_rfl, ?_⟩) (Below.refl _ _) ?_
                · intro w hSw; go_simp <;> first | omega | (intro hh; exfalso; omega) | rfl
                try simp only [Act.put, List.setIfInBounds_toArray, List.set_cons_zero, List.set_cons_succ, vblk16_20]
                refine wpAnyH_take (i := 21) (oi := vblk16_21) (v := .string ⟨L3.toArray⟩) rfl (by kernel_rfl) (by kernel_rfl) (by kernel_rfl) (fun _ _ _ h => h) (Or.inl ⟨by kernel_rfl, ?_⟩) (Below.refl _ _) ?_
                · intro w hSw; have hcc := C11.out w hSw; go_simp <;> first | omega | (intro hh; exfalso; omega) | rfl
                try simp only [Act.put, List.setIfInBounds_toArray, List.set_cons_zero, List.set_cons_succ, vblk16_21]
                refine wpAnyH_ready (rs := [1, 9]) (by kernel_rfl) (by simp) ?_
                apply AllReadyH.cons (o := vblk16_1) (by kernel_rfl)
                case h =>
                  intro K' hK'
                  simp only [vblk16_1]
                  go_simp
                  obtain ⟨W12, hW12⟩ : ∃ X, X = W11.alloc (.cells #[.string ⟨#[32]⟩, .string ⟨#[9]⟩, .string ⟨#[32, 32]⟩, .string ⟨#[32, 9]⟩] 9) := ⟨_, rfl⟩
                  rw [← hW12]
                  have y12 : Below W11.heap.size W11 W12 := by rw [hW12]; exact (Below.refl _ _).alloc (Nat.le_refl _) _
                  have z12 := below_seq z11 y12
                  obtain ⟨b12, hb12⟩ : ∃ b, b = W11.heap.size := ⟨_, rfl⟩
                  have C12 : Hid (∀ W, Below W12.heap.size W12 W → W.cell? ⟨b12, I1, none⟩ = some (.string ⟨L1.toArray⟩)) := Lib.hid fun W hW => cell_keep (by rw [hW12, hb12, (Row.new _ _ _).cell]; exact HA1.out) hW
                  rw [← hb12]
                  have C11_12 : Hid (∀ W, Below W12.heap.size W12 W → W.cell? ⟨b11, I3, none⟩ = some (.string ⟨L3.toArray⟩)) := Lib.hid fun W hW => C11.out W (below_seq y12 hW)
                  clear hW12 hb12
                  refine hK'.out _ _ (y12) (fun hHeld => ?_)
                  clear hK' K' hHeld
                  try simp only [Act.put, List.setIfInBounds_toArray, List.set_cons_zero, List.set_cons_succ]
                  refine wpAnyH_weaken (S' := fun W => Below W12.heap.size W12 W) (fun W h => below_seq y12 h) _ _ _ _ ?_
                  refine wpAnyH_take (i := 5) (oi := vblk16_5) (v := .pointer (some ⟨b12, I1, none⟩)) rfl (by kernel_rfl) (by kernel_rfl) (by kernel_rfl) (fun _ _ _ h => h) (Or.inl ⟨by kernel_rfl, ?_⟩) (Below.refl _ _) ?_
                  · intro w hSw; go_simp <;> first | omega | (intro hh; exfalso; omega) | rfl
                  try simp only [Act.put, List.setIfInBounds_toArray, List.set_cons_zero, List.set_cons_succ, vblk16_5]
                  refine wpAnyH_take (i := 6) (oi := vblk16_6) (v := .string ⟨L1.toArray⟩) rfl (by kernel_rfl) (by kernel_rfl) (by kernel_rfl) (fun _ _ _ h => h) (Or.inl ⟨by kernel_rfl, ?_⟩) (Below.refl _ _) ?_
                  · intro w hSw; have hcc := C12.out w hSw; go_simp <;> first | omega | (intro hh; exfalso; omega) | rfl
                  try simp only [Act.put, List.setIfInBounds_toArray, List.set_cons_zero, List.set_cons_succ, vblk16_6]
                  refine wpAnyH_take (i := 8) (oi := vblk16_8) (v := .string ⟨T8.toArray⟩) rfl (by kernel_rfl) (by kernel_rfl) (by kernel_rfl) (fun _ _ _ h => h) (Or.inl ⟨by kernel_rfl, ?_⟩) (Below.refl _ _) ?_
                  · intro w hSw; go_simp <;> first | omega | (intro hh; exfalso; omega) | rfl
                  try simp only [Act.put, List.setIfInBounds_toArray, List.set_cons_zero, List.set_cons_succ, vblk16_8]
                  refine wpAnyH_ready (rs := [9]) (by kernel_rfl) (by simp) ?_
                  apply AllReadyH.cons (o := vblk16_9) (by kernel_rfl)
                  case hs => exact AllReadyH.nil
                  intro K' hK'
                  simp only [vblk16_9]
                  go_simp
                  obtain ⟨W13, hW13⟩ : ∃ X, X = W12.alloc (.cells #[.string ⟨#[32]⟩, .string ⟨#[9, 9]⟩] 9) := ⟨_, rfl⟩
                  rw [← hW13]
                  have y13 : Below W12.heap.size W12 W13 := by rw [hW13]; exact (Below.refl _ _).alloc (Nat.le_refl _) _
                  have z13 := below_seq z12 y13
                  obtain ⟨b13, hb13⟩ : ∃ b, b = W12.heap.size := ⟨_, rfl⟩
                  have C13 : Hid (∀ W, Below W13.heap.size W13 W → W.cell? ⟨b13, I2, none⟩ = some (.string ⟨L2.toArray⟩)) := Lib.hid fun W hW => cell_keep (by rw [hW13, hb13, (Row.new _ _ _).cell]; exact HA2.out) hW
                  rw [← hb13]
                  have C11_12_13 : Hid (∀ W, Below W13.heap.size W13 W → W.cell? ⟨b11, I3, none⟩ = some (.string ⟨L3.toArray⟩)) := Lib.hid fun W hW => C11_12.out W (below_seq y13 hW)
                  have C12_13 : Hid (∀ W, Below W13.heap.size W13 W → W.cell? ⟨b12, I1, none⟩ = some (.string ⟨L1.toArray⟩)) := Lib.hid fun W hW => C12.out W (below_seq y13 hW)
                  clear hW13 hb13
                  refine hK'.out _ _ (y13) (fun hHeld => ?_)
                  clear hK' K' hHeld
                  try simp only [Act.put, List.setIfInBounds_toArray, List.set_cons_zero, List.set_cons_succ]
                  refine wpAnyH_weaken (S' := fun W => Below W13.heap.size W13 W) (fun W h => below_seq y13 h) _ _ _ _ ?_
                  refine wpAnyH_take (i := 12) (oi := vblk16_12) (v := .pointer (some ⟨b13, I2, none⟩)) rfl (by kernel_rfl) (by kernel_rfl) (by kernel_rfl) (fun _ _ _ h => h) (Or.inl ⟨by kernel_rfl, ?_⟩) (Below.refl _ _) ?_
                  · intro w hSw; go_simp <;> first | omega | (intro hh; exfalso; omega) | rfl
                  try simp only [Act.put, List.setIfInBounds_toArray, List.set_cons_zero, List.set_cons_succ, vblk16_12]
                  refine wpAnyH_take (i := 13) (oi := vblk16_13) (v := .string ⟨L2.toArray⟩) rfl (by kernel_rfl) (by kernel_rfl) (by kernel_rfl) (fun _ _ _ h => h) (Or.inl ⟨by kernel_rfl, ?_⟩) (Below.refl _ _) ?_
                  · intro w hSw; have hcc := C13.out w hSw; go_simp <;> first | omega | (intro hh; exfalso; omega) | rfl
                  try simp only [Act.put, List.setIfInBounds_toArray, List.set_cons_zero, List.set_cons_succ, vblk16_13]
                  refine wpAnyH_take (i := 14) (oi := vblk16_14) (v := .string ⟨T14.toArray⟩) rfl (by kernel_rfl) (by kernel_rfl) (by kernel_rfl) (fun _ _ _ h => h) (Or.inl ⟨by kernel_rfl, ?_⟩) (Below.refl _ _) ?_
                  · intro w hSw; go_simp <;> first | omega | (intro hh; exfalso; omega) | rfl
                  try simp only [Act.put, List.setIfInBounds_toArray, List.set_cons_zero, List.set_cons_succ, vblk16_14]
                  refine wpAnyH_take (i := 15) (oi := vblk16_15) (v := .string ⟨T15.toArray⟩) rfl (by kernel_rfl) (by kernel_rfl) (by kernel_rfl) (fun _ _ _ h => h) (Or.inl ⟨by kernel_rfl, ?_⟩) (Below.refl _ _) ?_
                  · intro w hSw; go_simp <;> first | omega | (intro hh; exfalso; omega) | rfl
                  try simp only [Act.put, List.setIfInBounds_toArray, List.set_cons_zero, List.set_cons_succ, vblk16_15]
                  refine wpAnyH_take (i := 22) (oi := vblk16_22) (v := .string ⟨T22.toArray⟩) rfl (by kernel_rfl) (by kernel_rfl) (by kernel_rfl) (fun _ _ _ h => h) (Or.inl ⟨by kernel_rfl, ?_⟩) (Below.refl _ _) ?_
                  · intro w hSw; go_simp <;> first | omega | (intro hh; exfalso; omega) | rfl
                  try simp only [Act.put, List.setIfInBounds_toArray, List.set_cons_zero, List.set_cons_succ, vblk16_22]
                  refine wpAnyH_take (i := 23) (oi := vblk16_23) (v := .string ⟨T23.toArray⟩) rfl (by kernel_rfl) (by kernel_rfl) (by kernel_rfl) (fun _ _ _ h => h) (Or.inl ⟨by kernel_rfl, ?_⟩) (Below.refl _ _) ?_
                  · intro w hSw; go_simp <;> first | omega | (intro hh; exfalso; omega) | rfl
                  try simp only [Act.put, List.setIfInBounds_toArray, List.set_cons_zero, List.set_cons_succ, vblk16_23]
                  refine wpAnyH_take (i := 24) (oi := vblk16_24) (v := .string ⟨T23.toArray⟩) rfl (by kernel_rfl) (by kernel_rfl) (by kernel_rfl) (fun _ _ _ h => h) (Or.inl ⟨by kernel_rfl, ?_⟩) (Below.refl _ _) ?_
                  · intro w hSw; go_simp <;> first | omega | (intro hh; exfalso; omega) | rfl
                  try simp only [Act.put, List.setIfInBounds_toArray, List.set_cons_zero, List.set_cons_succ, vblk16_24]
                  refine wpAnyH_done (by kernel_rfl) ?_ _
                  go_wp2_with fail
                  go_meet
                  exact ⟨rfl, Lib.hid (z13)⟩
                apply AllReadyH.cons (o := vblk16_9) (by kernel_rfl)
                case h =>
                  intro K' hK'
                  simp only [vblk16_9]
                  go_simp
                  obtain ⟨W14, hW14⟩ : ∃ X, X = W11.alloc (.cells #[.string ⟨#[32]⟩, .string ⟨#[9, 9]⟩] 9) := ⟨_, rfl⟩
                  rw [← hW14]
                  have y14 : Below W11.heap.size W11 W14 := by rw [hW14]; exact (Below.refl _ _).alloc (Nat.le_refl _) _
                  have z14 := below_seq z11 y14
                  obtain ⟨b14, hb14⟩ : ∃ b, b = W11.heap.size := ⟨_, rfl⟩
                  have C14 : Hid (∀ W, Below W14.heap.size W14 W → W.cell? ⟨b14, I2, none⟩ = some (.string ⟨L2.toArray⟩)) := Lib.hid fun W hW => cell_keep (by rw [hW14, hb14, (Row.new _ _ _).cell]; exact HA2.out) hW
                  rw [← hb14]
                  have C11_14 : Hid (∀ W, Below W14.heap.size W14 W → W.cell? ⟨b11, I3, none⟩ = some (.string ⟨L3.toArray⟩)) := Lib.hid fun W hW => C11.out W (below_seq y14 hW)
                  clear hW14 hb14
                  refine hK'.out _ _ (y14) (fun hHeld => ?_)
                  clear hK' K' hHeld
                  try simp only [Act.put, List.setIfInBounds_toArray, List.set_cons_zero, List.set_cons_succ]
                  refine wpAnyH_weaken (S' := fun W => Below W14.heap.size W14 W) (fun W h => below_seq y14 h) _ _ _ _ ?_
                  refine wpAnyH_take (i := 12) (oi := vblk16_12) (v := .pointer (some ⟨b14, I2, none⟩)) rfl (by kernel_rfl) (by kernel_rfl) (by kernel_rfl) (fun _ _ _ h => h) (Or.inl ⟨by kernel_rfl, ?_⟩) (Below.refl _ _) ?_
                  · intro w hSw; go_simp <;> first | omega | (intro hh; exfalso; omega) | rfl
                  try simp only [Act.put, List.setIfInBounds_toArray, List.set_cons_zero, List.set_cons_succ, vblk16_12]
                  refine wpAnyH_take (i := 13) (oi := vblk16_13) (v := .string ⟨L2.toArray⟩) rfl (by kernel_rfl) (by kernel_rfl) (by kernel_rfl) (fun _ _ _ h => h) (Or.inl ⟨by kernel_rfl, ?_⟩) (Below.refl _ _) ?_
                  · intro w hSw; have hcc := C14.out w hSw; go_simp <;> first | omega | (intro hh; exfalso; omega) | rfl
                  try simp only [Act.put, List.setIfInBounds_toArray, List.set_cons_zero, List.set_cons_succ, vblk16_13]
                  refine wpAnyH_ready (rs := [1]) (by kernel_rfl) (by simp) ?_
                  apply AllReadyH.cons (o := vblk16_1) (by kernel_rfl)
                  case hs => exact AllReadyH.nil
                  intro K' hK'
                  simp only [vblk16_1]
                  go_simp
                  obtain ⟨W15, hW15⟩ : ∃ X, X = W14.alloc (.cells #[.string ⟨#[32]⟩, .string ⟨#[9]⟩, .string ⟨#[32, 32]⟩, .string ⟨#[32, 9]⟩] 9) := ⟨_, rfl⟩
                  rw [← hW15]
                  have y15 : Below W14.heap.size W14 W15 := by rw [hW15]; exact (Below.refl _ _).alloc (Nat.le_refl _) _
                  have z15 := below_seq z14 y15
                  obtain ⟨b15, hb15⟩ : ∃ b, b = W14.heap.size := ⟨_, rfl⟩
                  have C15 : Hid (∀ W, Below W15.heap.size W15 W → W.cell? ⟨b15, I1, none⟩ = some (.string ⟨L1.toArray⟩)) := Lib.hid fun W hW => cell_keep (by rw [hW15, hb15, (Row.new _ _ _).cell]; exact HA1.out) hW
                  rw [← hb15]
                  have C11_14_15 : Hid (∀ W, Below W15.heap.size W15 W → W.cell? ⟨b11, I3, none⟩ = some (.string ⟨L3.toArray⟩)) := Lib.hid fun W hW => C11_14.out W (below_seq y15 hW)
                  have C14_15 : Hid (∀ W, Below W15.heap.size W15 W → W.cell? ⟨b14, I2, none⟩ = some (.string ⟨L2.toArray⟩)) := Lib.hid fun W hW => C14.out W (below_seq y15 hW)
                  clear hW15 hb15
                  refine hK'.out _ _ (y15) (fun hHeld => ?_)
                  clear hK' K' hHeld
                  try simp only [Act.put, List.setIfInBounds_toArray, List.set_cons_zero, List.set_cons_succ]
                  refine wpAnyH_weaken (S' := fun W => Below W15.heap.size W15 W) (fun W h => below_seq y15 h) _ _ _ _ ?_
                  refine wpAnyH_take (i := 5) (oi := vblk16_5) (v := .pointer (some ⟨b15, I1, none⟩)) rfl (by kernel_rfl) (by kernel_rfl) (by kernel_rfl) (fun _ _ _ h => h) (Or.inl ⟨by kernel_rfl, ?_⟩) (Below.refl _ _) ?_
                  · intro w hSw; go_simp <;> first | omega | (intro hh; exfalso; omega) | rfl
                  try simp only [Act.put, List.setIfInBounds_toArray, List.set_cons_zero, List.set_cons_succ, vblk16_5]
                  refine wpAnyH_take (i := 6) (oi := vblk16_6) (v := .string ⟨L1.toArray⟩) rfl (by kernel_rfl) (by kernel_rfl) (by kernel_rfl) (fun _ _ _ h => h) (Or.inl ⟨by kernel_rfl, ?_⟩) (Below.refl _ _) ?_
                  · intro w hSw; have hcc := C15.out w hSw; go_simp <;> first | omega | (intro hh; exfalso; omega) | rfl
                  try simp only [Act.put, List.setIfInBounds_toArray, List.set_cons_zero, List.set_cons_succ, vblk16_6]
                  refine wpAnyH_take (i := 8) (oi := vblk16_8) (v := .string ⟨T8.toArray⟩) rfl (by kernel_rfl) (by kernel_rfl) (by kernel_rfl) (fun _ _ _ h => h) (Or.inl ⟨by kernel_rfl, ?_⟩) (Below.refl _ _) ?_
                  · intro w hSw; go_simp <;> first | omega | (intro hh; exfalso; omega) | rfl
                  try simp only [Act.put, List.setIfInBounds_toArray, List.set_cons_zero, List.set_cons_succ, vblk16_8]
                  refine wpAnyH_take (i := 14) (oi := vblk16_14) (v := .string ⟨T14.toArray⟩) rfl (by kernel_rfl) (by kernel_rfl) (by kernel_rfl) (fun _ _ _ h => h) (Or.inl ⟨by kernel_rfl, ?_⟩) (Below.refl _ _) ?_
                  · intro w hSw; go_simp <;> first | omega | (intro hh; exfalso; omega) | rfl
                  try simp only [Act.put, List.setIfInBounds_toArray, List.set_cons_zero, List.set_cons_succ, vblk16_14]
                  refine wpAnyH_take (i := 15) (oi := vblk16_15) (v := .string ⟨T15.toArray⟩) rfl (by kernel_rfl) (by kernel_rfl) (by kernel_rfl) (fun _ _ _ h => h) (Or.inl ⟨by kernel_rfl, ?_⟩) (Below.refl _ _) ?_
                  · intro w hSw; go_simp <;> first | omega | (intro hh; exfalso; omega) | rfl
                  try simp only [Act.put, List.setIfInBounds_toArray, List.set_cons_zero, List.set_cons_succ, vblk16_15]
                  refine wpAnyH_take (i := 22) (oi := vblk16_22) (v := .string ⟨T22.toArray⟩) rfl (by kernel_rfl) (by kernel_rfl) (by kernel_rfl) (fun _ _ _ h => h) (Or.inl ⟨by kernel_rfl, ?_⟩) (Below.refl _ _) ?_
                  · intro w hSw; go_simp <;> first | omega | (intro hh; exfalso; omega) | rfl
                  try simp only [Act.put, List.setIfInBounds_toArray, List.set_cons_zero, List.set_cons_succ, vblk16_22]
                  refine wpAnyH_take (i := 23) (oi := vblk16_23) (v := .string ⟨T23.toArray⟩) rfl (by kernel_rfl) (by kernel_rfl) (by kernel_rfl) (fun _ _ _ h => h) (Or.inl ⟨by kernel_rfl, ?_⟩) (Below.refl _ _) ?_
                  · intro w hSw; go_simp <;> first | omega | (intro hh; exfalso; omega) | rfl
                  try simp only [Act.put, List.setIfInBounds_toArray, List.set_cons_zero, List.set_cons_succ, vblk16_23]
                  refine wpAnyH_take (i := 24) (oi := vblk16_24) (v := .string ⟨T23.toArray⟩) rfl (by kernel_rfl) (by kernel_rfl) (by kernel_rfl) (fun _ _ _ h => h) (Or.inl ⟨by kernel_rfl, ?_⟩) (Below.refl _ _) ?_
                  · intro w hSw; go_simp <;> first | omega | (intro hh; exfalso; omega) | rfl
                  try simp only [Act.put, List.setIfInBounds_toArray, List.set_cons_zero, List.set_cons_succ, vblk16_24]
                  refine wpAnyH_done (by kernel_rfl) ?_ _
                  go_wp2_with fail
                  go_meet
                  exact ⟨rfl, Lib.hid (z15)⟩
                exact AllReadyH.nil
              exact AllReadyH.nil
              -- )REGION
              -- )DEV
            case rest =>
              obtain ⟨rfl, hbx⟩ := hcut
              have hbx := hbx.out
              have ho4 := Lib.hid (hown3.out.keep hbx)
              have hw4 : Hid (∀ x ∈ l, StrsTy wc x.2 [x.1.2, [120]]) := Lib.hid fun x hx => (hwd3.out x hx).keep StrTy.firm hbx
              have hb14 := hb13.trans (hbx.mono hb13.size)
              have HK := Lib.hid hK
              have HNM := Lib.hid hnm
              clear hown3 hwd3 hb13 hbx hK hnm hbw3 c8 c14 c15 c22 c23 s8 s14 s15 s22 s23 i1 i2 i3 j1 j2 j3 k1 k2 k3 k4 k5 k6 HA1 HA2 HA3 HP0 HP1
              have hal : Below wc.heap.size wc (wc.alloc (.cells #[.string ⟨u.toArray⟩, .string ⟨#[120]⟩] 9)) := (Below.refl _ _).alloc (Nat.le_refl _) _
              have hrow := Row.new wc 9 #[.string ⟨u.toArray⟩, .string ⟨#[120]⟩]
              have hal2 : Below wc.heap.size wc ((wc.alloc (.cells #[.string ⟨u.toArray⟩, .string ⟨#[120]⟩] 9)).alloc (.cells #[.slice (some ⟨wc.heap.size, 0, none⟩) 2 2] 24)) := hal.alloc (by simp) _
              have ho5 := Lib.hid (ho4.out.keep hal2)
              have hnew : Hid (∀ (j : Nat) v, [Value.slice (some ⟨wc.heap.size, 0, none⟩) 2 2][j]? = some v → ((wc.alloc (.cells #[.string ⟨u.toArray⟩, .string ⟨#[120]⟩] 9)).alloc (.cells #[.slice (some ⟨wc.heap.size, 0, none⟩) 2 2] 24)).cell? ((⟨wc.heap.size + 1, 0, none⟩ : Addr).add j) = some v) := Lib.hid fun j v hj => by
                rcases j with _ | j
                · cases hj
                  have := (Row.new (wc.alloc (.cells #[.string ⟨u.toArray⟩, .string ⟨#[120]⟩] 9)) 24 #[.slice (some ⟨wc.heap.size, 0, none⟩) 2 2]).cell 0
                  rw [show (wc.alloc (.cells #[.string ⟨u.toArray⟩, .string ⟨#[120]⟩] 9)).heap.size = wc.heap.size + 1 from by simp] at this
                  exact this
                · simp at hj
              have hst : Hid (StrsTy ((wc.alloc (.cells #[.string ⟨u.toArray⟩, .string ⟨#[120]⟩] 9)).alloc (.cells #[.slice (some ⟨wc.heap.size, 0, none⟩) 2 2] 24)) (.slice (some ⟨wc.heap.size, 0, none⟩) 2 2) [u, [120]]) := Lib.hid (by
                have h2 : Row ((wc.alloc (.cells #[.string ⟨u.toArray⟩, .string ⟨#[120]⟩] 9)).alloc (.cells #[.slice (some ⟨wc.heap.size, 0, none⟩) 2 2] 24)) wc.heap.size 9 #[.string ⟨u.toArray⟩, .string ⟨#[120]⟩] := hrow.alloc _
                refine ⟨_, _, rfl, Nat.le_refl _, fun i x hx => ⟨_, 0, rfl, ⟨_, _, h2⟩, ?_⟩⟩
                unfold StrR
                rw [h2.cell]
                rcases i with _ | _ | i <;> simp at hx <;> subst hx <;> rfl)
              have hk1 : w1.heap.size ≤ ((wc.alloc (.cells #[.string ⟨u.toArray⟩, .string ⟨#[120]⟩] 9)).alloc (.cells #[.slice (some ⟨wc.heap.size, 0, none⟩) 2 2] 24)).heap.size := Nat.le_trans hb14.size hal2.size
              clear hal hrow
              go_wp2_with (at_builtin; refine wpList_append_ownK (Kd := fun _ => True) rfl (.tmp 74) (.tmp 77) 38 rfl w1.heap.size 24 i9 _ 1 Tryz.underlying38 hi9 hz9 hsz9 rfl (by omega) _ l.length _ rfl ho5.out ⟨wc.heap.size + 1, 0, none⟩ 1 1 [Value.slice (some ⟨wc.heap.size, 0, none⟩) 2 2] rfl (by simp) hnew.out (by simp [Value.oneCell']) (by simp) (by simp) (by omega) (by unfold maxLen; omega) (by rw [hby9]; omega) hk1 ?_; intro v6 w6 hown6 hgr6 hloc6; refine Hid.out ?_)
              have hb16 : Below w1.heap.size w1 w6 := (hb14.trans (hal2.mono hb14.size)).grown hgr6 hk1 fun j hj => (ho5.out.lt hj).1
              have hO6 : Hid (Own w6 w1.heap.size 24 1 v6 (l ++ [((K, u), Value.slice (some ⟨wc.heap.size, 0, none⟩) 2 2)]).length ((l ++ [((K, u), Value.slice (some ⟨wc.heap.size, 0, none⟩) 2 2)]).flatMap encP)) := Lib.hid (by simpa [encP] using hown6)
              have hW6 : Hid (∀ x ∈ l ++ [((K, u), Value.slice (some ⟨wc.heap.size, 0, none⟩) 2 2)], StrsTy w6 x.2 [x.1.2, [120]]) := Lib.hid fun x hx => by
                refine strsTy_grown1 ho5.out (by decide) hgr6 ?_
                rcases List.mem_append.1 hx with hx | hx
                · exact (hw4.out x hx).keep StrTy.firm hal2
                · simp at hx; subst hx; exact hst.out
              have hG6 : Hid (∀ x ∈ l ++ [((K, u), Value.slice (some ⟨wc.heap.size, 0, none⟩) 2 2)], x.1.1 < 16 ∧ nameB x.1.2 = true) := Lib.hid fun x hx => by
                rcases List.mem_append.1 hx with hx | hx
                · exact hgood.out x hx
                · simp at hx; subst hx; exact ⟨HK.out, HNM.out⟩
              have hPe : Hid (T23 = pieces (l ++ [((K, u), Value.slice (some ⟨wc.heap.size, 0, none⟩) 2 2)])) := Lib.hid (by rw [HF.out]; simp [pieces])
              refine Lib.hid ?_
              clear hown6 hgr6 hloc6 hst hnew hk1 ho5 hw4 ho4 hal2 hb14 HF
              have hig := HIG.out
              go_wp2_with fail
              go_roundg (gk - 1)
              case measure => omega
              case rel => exact ⟨i + 1, _, by go_num, by omega, by simp; omega, by rw [hPe.out], hG6, hO6, hW6, hb16⟩
      · have hnm' : nameB u = false := by simpa using hnm
        rw [hnm']
        have hig := HIG.out
        go_wp2_with fail
        go_roundg (gk - 1)
        case measure => omega
        case rel => exact ⟨i + 1, l, by go_num, by omega, by omega, rfl, hgood, hown3, hwd3, hb13⟩
    · have hpl := pieces_len hgood.out
      have cw := words_Get wr (pieces l) (HT.out.keep hbw) (by omega)
      obtain ⟨LS, hLS, hS1, hS2⟩ := blank_get hgood.out (show l.length ≤ 12 by omega)
      unfold WordsGot at cw
      rw [hLS] at cw
      dsimp only at cw
      have CW := Lib.hid cw
      obtain ⟨A2, c2, rfl, hc2, hcl⟩ := hown.out.sl
      have HCL := Lib.hid hcl
      have HS2 := Lib.hid hS2
      have hd : (¬ i < ys.length) ∨ (i < ys.length ∧ ¬ i < 12) := by omega
      have hl12 : l.length ≤ 12 := by omega
      clear cw hLS hgo hcl hS2 hpl hgood hown hig
      have hfin : Hid (∀ w5, Below wr.heap.size wr w5 → Below w.heap.size w w5) := Lib.hid fun w5 h => below_seq hbw h
      rcases hd with hd | ⟨hd, hd2⟩
      all_goals
        go_wp2_with fail
        refine CW.out.mono ?_
        rintro e w5 ⟨v1, rfl, ⟨A1, c1, rfl, hc1, hl1⟩, hb5⟩
        have HL1 := Lib.hid hl1
        have HB5 := Lib.hid hb5
        clear hl1 hb5 CW
        rw [hS1] at hc1 ⊢
        go_wp2_with fail
        go_loopg [96] l.length (fun g jv wx => ∃ j : Nat, jv = .int .i64 j ∧ j + g = l.length ∧ Below w5.heap.size w5 wx)
        case atStart => exact ⟨0, rfl, by omega, Below.refl _ _⟩
        case round =>
          obtain ⟨j, rfl, hjg, hbj⟩ := hrel
          have HJG := Lib.hid hjg
          have HBJ := Lib.hid hbj
          by_cases hjl : j < l.length
          · obtain ⟨pr, hpr⟩ : ∃ p, l[j]? = some p := ⟨l[j], by simp [hjl]⟩
            obtain ⟨ln, hln⟩ : ∃ ln, LS[j]? = some ln := ⟨LS[j]'(by omega), by simp⟩
            obtain ⟨hh0, hw0⟩ := HS2.out j ln pr.1.2 hln (by simp [hpr])
            obtain ⟨g1, o1, rfl, z1, hn1, hh1, hz1, D1, d1, rfl, hd1, hs1⟩ := HL1.out j ln hln
            obtain ⟨g2, rfl, hk2⟩ := HCL.out j pr.2 (by have := fl_get (enc := encP) encP_len hpr (k := 0) (by omega); simpa [encP] using this)
            obtain ⟨D2, d2, hv2, hd2', hs2⟩ := hwd.out pr (List.mem_of_getElem? hpr)
            rw [hw0] at hd1 hz1 hs1
            rw [hh0] at hh1
            rw [hv2] at hk2
            obtain ⟨p1, q1, rfl, e10⟩ := hs1 0 _ rfl
            obtain ⟨p1', q1', hpq1, e11⟩ := hs1 1 _ rfl
            obtain ⟨p2, q2, rfl, e20⟩ := hs2 0 _ rfl
            cases hpq1
            have e20 := e20.2
            unfold StrR at e10 e11 e20
            have hbx5 := below_seq HB5.out hbj
            have f1 := cell_keep hh1 hbj
            have f2 := cell_keep hz1 hbj
            have f3 := cell_keep e10 hbj
            have f4 := cell_keep e11 hbj
            have f5 := cell_keep hk2 hbx5
            have f6 := cell_keep e20 hbx5
            simp only [List.length_cons, List.length_nil, Nat.zero_add, Nat.zero_mul, Nat.one_mul, Nat.add_zero] at f2 f3 f4 f5 f6
            generalize pr.1.2 = u at *
            clear hh1 hz1 e10 e11 hk2 e20 hs1 hs2 hn1 hpr hln hh0 hw0 hbj hjg hbx5 hv2
            go_wp2_with fail
            go_quiet (fail)
            have hbq : Below w5.heap.size w5 (wr.drewN nq) := Below.drewN_ HBJ.out nq
            clear f1 f2 f3 f4 f5 f6
            go_wp2_with fail
            go_roundg (gk - 1)
            case measure => have := HJG.out; omega
            case rel => exact ⟨j + 1, by go_num, by have := HJG.out; omega, hbq⟩
          · obtain rfl : j = l.length := by omega
            have hend := hfin.out wr (below_seq HB5.out hbj)
            clear hjg
            go_wp2_with fail
            go_ret
            exact ⟨rfl, hend⟩
end Go.Proofs.YtfnhdiibkogekaaGreatDoor
