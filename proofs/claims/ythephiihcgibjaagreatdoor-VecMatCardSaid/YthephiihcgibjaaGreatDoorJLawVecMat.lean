/- The law VecMat: a matrix by a vector is its rows by it, one by one. -/
import Derived.Test.YthephiihcgibjaaGreatDoorJAtLaw
import Derived.Test.YthephiihcgibjaaGreatDoorJLawMat
import Derived.Test.YthephiihcgibjaaGreatDoorJWalkT
import Derived.Test.YthephiihcgibjaaGreatDoorJLitD
import Derived.Test.YthephiihcgibjaaGreatDoorJCoefs
import Derived.Test.YthephiihcgibjaaGreatDoorJWalkH
import Derived.Test.YthephiihcgibjaaGreatDoorJWalkM
import Derived.Deep.RegionHeld
set_option linter.unusedVariables false
set_option linter.unusedSimpArgs false
namespace Vic
open Go Go.RowKit
def CBlock (w : World) (g n : Nat) (T : TypeId) : Prop := ∃ cur, w.heap[g]? = some (.cells cur T (0, 0)) ∧ n * 2 ≤ cur.size ∧ ∀ u ∈ cur, coefKind u
theorem OwnCoefs.block {w : World} {B : Nat} {T : TypeId} {v : Value} {cs : List VCoef} (h : OwnCoefs w B T v cs) : (v = .slice none 0 0 ∧ cs = []) ∨ ∃ g c, v = .slice (some ⟨g, 0, none⟩) cs.length c ∧ B ≤ g ∧ g < w.heap.size ∧ cs.length ≤ c ∧ CBlock w g cs.length T := by
  have hlt := fun g hg => OwnK.lt h (g := g) hg
  obtain ⟨h1, ⟨rfl, h2⟩ | ⟨g, cap, cur, rfl, a2, a3, a4, a5, a6, a7, a8⟩⟩ := h
  · exact .inl ⟨rfl, List.eq_nil_of_length_eq_zero h2⟩
  · exact .inr ⟨g, cap, rfl, a2, (hlt g rfl).2, a4, cur, a3, by rw [a6]; exact Nat.mul_le_mul_right _ a4, a8⟩
theorem CBlock.keep {w w' : World} {g n : Nat} {T : TypeId} (h : CBlock w g n T) (hb : Below w.heap.size w w') : CBlock w' g n T := by
  obtain ⟨cur, h1, h2⟩ := h
  have hlt : g < w.heap.size := by
    rcases Nat.lt_or_ge g w.heap.size with h | h
    · exact h
    · rw [Array.getElem?_eq_none h] at h1; cases h1
  exact ⟨cur, (hb.block g hlt).trans h1, h2⟩
theorem CBlock.at_ {w : World} {g n : Nat} {T : TypeId} (h : CBlock w g n T) {j : Nat} (hj : j < n * 2) : (∃ u, w.cell? ⟨g, j, none⟩ = some u) ∧ w.frozen? ⟨g, j, none⟩ = false := by
  obtain ⟨cur, h1, h2, _⟩ := h
  have hr : Row w g T cur := h1
  refine ⟨⟨cur[j]'(by omega), ?_⟩, hr.free j⟩
  rw [hr.cell, Array.getElem?_eq_getElem (by omega)]
theorem parts_fits {cs : List VCoef} (h : CoefsOk cs) {ps : List (Int × Rat)} (hp : ps.Perm (partsOf cs)) : ∀ p ∈ ps, Fits 2000 p.2 := by
  intro p hm
  have h1 := hp.mem_iff.1 hm
  unfold partsOf at h1
  obtain ⟨x, hx, rfl⟩ := List.mem_map.1 (List.mem_filter.1 h1).1
  exact good_fits (h.2 x hx).2
theorem parts_len {cs : List VCoef} {ps : List (Int × Rat)} (hp : ps.Perm (partsOf cs)) : ps.length ≤ cs.length := by
  rw [hp.length_eq]
  unfold partsOf
  exact Nat.le_trans (List.length_filter_le _ _) (by simp)
theorem OwnCoefs.only {w w' : World} {B : Nat} {T : TypeId} {v : Value} {cs : List VCoef} (h : OwnCoefs w B T v cs) {g : Nat} (hs : ∀ b, b ≠ g → w'.heap[b]? = w.heap[b]?) (hg : ∀ b, v.ownBlock = some b → b ≠ g) : OwnCoefs w' B T v cs := OwnK.stay h fun b hb => hs b (hg b hb)
theorem dotGo_fits {L : Nat} (hL : 2 ≤ L) {qs : PL} (hq : ∀ p ∈ qs, Fits L p.2) : ∀ (ps : PL) (s : Rat) (n : Nat), (∀ p ∈ ps, Fits L p.2) → Fits n s → Fits (n + ps.length * (2 * L + 1)) (dotGo qs s ps)
  | [], s, n, _, hs => by simpa [dotGo] using hs
  | p :: ps, s, n, hp, hs => by
    have h1 : Fits (L + L) (p.2 * atOf qs p.1) := fits_mul (hp p List.mem_cons_self) (atOf_fits hL hq p.1)
    have h2 : Fits (n + (2 * L + 1)) (s + p.2 * atOf qs p.1) := (fits_add hs h1).mono (by omega)
    have h3 := dotGo_fits hL hq ps _ _ (fun x hx => hp x (List.mem_cons_of_mem _ hx)) h2
    exact h3.mono (by rw [List.length_cons, Nat.add_mul]; omega)
theorem dot_fits {L : Nat} (hL : 2 ≤ L) {ps qs : PL} (hp : ∀ p ∈ ps, Fits L p.2) (hq : ∀ p ∈ qs, Fits L p.2) : Fits (2 + ps.length * (2 * L + 1)) (dotV ps qs) :=
  dotGo_fits hL hq ps 0 2 hp (fits_of (n := 0) (by omega) (by omega))
theorem MatMade.read {T : TypeId} {rows cols : Nat} {M : Mtx} {w w' : World} {e : Ending} (h : MatMade T rows cols M w e w') : ∃ z, e = .returned (.tuple #[.pointer (some ⟨z, 0, none⟩), .bool true]) ∧ MatR w' (.pointer (some ⟨z, 0, none⟩)) rows cols M ∧ Below w.heap.size w w' := by
  obtain ⟨mb, G, c, g, cap, cur, rfl, h1, h2, h3, h4, h5⟩ := h
  exact ⟨mb, rfl, ⟨mb, G, 0, c, rfl, h1, h2, h3, h4.rgrid⟩, h5⟩
theorem own_frin {w : World} {B n : Nat} {T : TypeId} {v : Value} {ps : List (Option Addr)} {q : Nat → Rat} (h : OwnK ptrKind w B T 1 v n (ps.map Value.pointer)) (hn : 0 < n) (hl : ps.length = n) (hq : ∀ (i : Nat) p, ps[i]? = some p → FracPtr w (.pointer p) (q i)) : FrIn w v n q := by
  obtain ⟨g, cap, cur, rfl, h1, h2, h3, h4, h5⟩ := h.rowOf hn hl
  refine ⟨g, 0, cap, rfl, h3, fun k hk => ?_⟩
  have hk' : k < ps.length := by omega
  refine ⟨ps[k], ?_, hq k _ (List.getElem?_eq_getElem hk')⟩
  rw [Nat.zero_add, h2.cell, h5 k _ (List.getElem?_eq_getElem hk')]
theorem FrIn.pick {w : World} {v : Value} {n : Nat} {q : Nat → Rat} (h : FrIn w v n q) : ∃ g o c, v = .slice (some ⟨g, o, none⟩) n c ∧ n ≤ c ∧ ∃ bp : Nat → Option Addr, ∀ k, k < n → w.cell? ⟨g, o + k, none⟩ = some (.pointer (bp k)) ∧ FracPtr w (.pointer (bp k)) (q k) := by
  obtain ⟨g, o, c, h1, h2, h3⟩ := h
  refine ⟨g, o, c, h1, h2, fun k => if hk : k < n then (h3 k hk).choose else none, fun k hk => ?_⟩
  simp only [hk, dif_pos]
  exact (h3 k hk).choose_spec
theorem MatR.shape {w : World} {v : Value} {rows cols : Nat} {M : Mtx} (h : MatR w v rows cols M) : ∃ b, v = .pointer (some ⟨b, 0, none⟩) := by
  obtain ⟨b, _, _, _, h, _⟩ := h
  exact ⟨b, h⟩
/-- coefficients at the places 0, 1, .. -/
def RowCs (cl : List VCoef) (n : Nat) (q : Nat → Rat) : Prop := cl.length = n ∧ ∀ (j : Nat) x, cl[j]? = some x → x.1 = (j : Int) ∧ FracGood x.2 ∧ fracOf x.2 = q j ∧ x.2.length ≤ 20000
theorem RowCs.push {cl : List VCoef} {n : Nat} {q q' : Nat → Rat} {V : List UInt8} (h : RowCs cl n q) (hq : ∀ j, j < n → q' j = q j) (hV : FracGood V ∧ fracOf V = q' n ∧ V.length ≤ 20000) : RowCs (cl ++ [((n : Int), V)]) (n + 1) q' := by
  refine ⟨by rw [List.length_append, h.1]; rfl, fun j x hx => ?_⟩
  rcases Nat.lt_or_ge j n with h4 | h4
  · rw [List.getElem?_append_left (by rw [h.1]; exact h4)] at hx
    obtain ⟨a1, a2, a3, a4⟩ := h.2 j x hx
    exact ⟨a1, a2, by rw [hq j h4]; exact a3, a4⟩
  · rw [List.getElem?_append_right (by rw [h.1]; exact h4), h.1] at hx
    rcases hjn : j - n with _ | m
    · rw [hjn] at hx
      simp only [List.getElem?_cons_zero, Option.some.injEq] at hx
      subst hx
      obtain rfl : j = n := by omega
      exact ⟨rfl, hV⟩
    · rw [hjn] at hx; simp at hx
theorem RowCs.ok {cl : List VCoef} {n : Nat} {q : Nat → Rat} (h : RowCs cl n q) (hn : n ≤ 10) : CoefsOk cl ∧ ∀ x ∈ cl, x.2.length ≤ 20000 := by
  refine ⟨⟨?_, fun x hx => ?_⟩, fun x hx => ?_⟩
  · rw [List.pairwise_iff_getElem]
    intro i j hi hj hij
    have a1 := (h.2 i _ (List.getElem?_eq_getElem hi)).1
    have a2 := (h.2 j _ (List.getElem?_eq_getElem hj)).1
    rw [a1, a2]; omega
  · obtain ⟨j, hj⟩ := List.mem_iff_getElem?.1 hx
    obtain ⟨a1, a2, a3, a4⟩ := h.2 j x hj
    have := (List.getElem?_eq_some_iff.1 hj).1
    have := h.1
    exact ⟨by omega, a2⟩
  · obtain ⟨j, hj⟩ := List.mem_iff_getElem?.1 hx
    exact (h.2 j x hj).2.2.2
theorem RowCs.at_ {cl : List VCoef} {n : Nat} {q : Nat → Rat} (h : RowCs cl n q) (hn : n ≤ 10) {j : Nat} (hj : j < n) : atC cl j = q j := by
  have hj' : j < cl.length := by rw [h.1]; exact hj
  obtain ⟨a1, a2, a3, a4⟩ := h.2 j _ (List.getElem?_eq_getElem hj')
  have := atC_mem (h.ok hn).1.1 cl[j] (List.getElem_mem hj')
  rw [a1, a3] at this
  exact this
theorem sumTo_sigma (a b : PL) (n : Nat) : sumTo a b n = sigma n fun k => atOf a k * atOf b k := by
  induction n with
  | zero => rfl
  | succ n ih => rw [sumTo, ih, sigma_succ]
theorem rows_dot {ps qs : PL} {cl dl : List VCoef} {n : Nat} {a b : Nat → Rat} (hn : n ≤ 10) (hc : RowCs cl n a) (hd : RowCs dl n b) (hp : ps.Perm (partsOf cl)) (hq : qs.Perm (partsOf dl)) (hrp : Rising ps) (hrq : Rising qs) : dotV ps qs = sigma n fun k => a k * b k := by
  rw [dot_sum ps qs n hrp (fun p hpp => ?_), sumTo_sigma]
  · refine sigma_congr fun k hk => ?_
    rw [atOf_atC hp hrp (hc.ok hn).1.1, atOf_atC hq hrq (hd.ok hn).1.1, hc.at_ hn hk, hd.at_ hn hk]
  · have h1 := hp.mem_iff.1 hpp
    unfold partsOf at h1
    obtain ⟨x, hx, rfl⟩ := List.mem_map.1 (List.mem_filter.1 h1).1
    obtain ⟨j, hj⟩ := List.mem_iff_getElem?.1 hx
    have a1 := (hc.2 j x hj).1
    have a2 := (List.getElem?_eq_some_iff.1 hj).1
    have := hc.1
    show 0 ≤ x.1 ∧ x.1 < n
    omega
/-- rows of one's own of two types lie in two blocks -/
theorem own_apart {K1 K2 : Value → Prop} {w : World} {B1 B2 : Nat} {T1 T2 : TypeId} {s1 s2 n1 n2 : Nat} {v1 v2 : Value} {x1 x2 : List Value} (h1 : OwnK K1 w B1 T1 s1 v1 n1 x1) (h2 : OwnK K2 w B2 T2 s2 v2 n2 x2) (hT : T1 ≠ T2) {g : Nat} (hg : v1.ownBlock = some g) : v2.ownBlock ≠ some g := fun hg2 => by
  obtain ⟨_, ⟨rfl, _⟩ | ⟨g1, cap1, cur1, rfl, _, a3, _⟩⟩ := h1
  · cases hg
  · obtain ⟨_, ⟨rfl, _⟩ | ⟨g2, cap2, cur2, rfl, _, b3, _⟩⟩ := h2
    · cases hg2
    · injection hg with hg; injection hg2 with hg2
      subst hg; subst hg2
      rw [a3] at b3; injection b3 with b3; injection b3 with _ b3 _
      exact hT b3
theorem coefKind_ne {u : Value} (h : coefKind u) : (∀ x, u ≠ .bool x) ∧ ∀ x, u ≠ .int .u32 x := by
  rcases h with ⟨n, rfl⟩ | ⟨s, rfl⟩
  · exact ⟨fun x => by simp, fun x => by simp⟩
  · exact ⟨fun x => by simp, fun x => by simp⟩
end Vic
namespace Go.Proofs.YthephiihcgibjaaGreatDoor
open Go.RowKit Vic
set_option maxRecDepth 100000 in
set_option maxHeartbeats 4000000 in
theorem law_F2 (w : World) (ht : Tab w) (s : List UInt8) (hs : s.length ≤ 1000) : Calls Tryz.prog 27 #[.string ⟨s.toArray⟩] w (fun e w' => ∃ x l, e = .returned x ∧ FracPtr w' x (fracOf l) ∧ FracGood l ∧ fracText (fracOf l) = l ∧ l.length ≤ 1000 ∧ Below w.heap.size w w') := by
  have CG := Lib.hid (frac_Get w s (by omega) ht)
  unfold GotFrac at CG
  have CO : Hid (∀ W, Calls Tryz.prog 23 #[.int .i64 0] W (Gives (fun x w' => FracPtr w' x ((0 : Int) : Rat)) W)) := Lib.hid fun W => frac_Of W 0 (by omega) (by omega)
  have h48 : FracGood [48] ∧ fracOf [48] = 0 := ⟨fg_zero, by
    have := fracGood_text 0 (by decide +kernel) (by decide +kernel)
    rw [fracText_zero] at this
    exact this.2⟩
  go_enter Tryz.func27, Tryz.ntmps27
  go_wp2_with fail
  refine CG.out.mono ?_
  rintro e w1 (⟨hno, rfl, hb1⟩ | ⟨hg, x, rfl, hx, hf, hb1⟩)
  · go_wp2_with fail
    refine (CO.out _).mono ?_
    rintro e w2 ⟨x, rfl, hx, hb2⟩
    go_wp2_with fail
    go_ret
    exact ⟨_, [48], rfl, by rw [h48.2]; exact hx, h48.1, by rw [h48.2]; exact fracText_zero, by simp, below_seq hb1 hb2⟩
  · obtain ⟨b, hxb⟩ : ∃ b, x = .pointer b := by obtain ⟨b, _, _, h, _⟩ := hx; exact ⟨_, h⟩
    subst hxb
    have HX := Lib.hid hx
    clear hx
    go_wp2_with fail
    go_ret
    exact ⟨_, s, rfl, HX.out, hg, (fracGood_iff _ hg).symm, hs, hb1⟩
abbrev vvm31_0 : Oper := { dst := some 123, op := Go.Op.move (Go.Operand.tmp 23), type := 40, pos := "three.go:150", after := #[], guard := none }
abbrev vvm31_1 : Oper := { dst := some 124, op := Go.Op.move (Go.Operand.tmp 16), type := 40, pos := "three.go:150", after := #[], guard := none }
abbrev vvm31_2 : Oper := { dst := some 125, op := Go.Op.call { callee := Go.Callee.value (Go.Operand.func 29), args := #[Go.Operand.tmp 123, Go.Operand.tmp 124], argTypes := #[40, 40] }, type := 31, pos := "three.go:150", after := #[{ on := 0, ground := Go.Ground.data }, { on := 1, ground := Go.Ground.data }], guard := none }
abbrev vvm31_3 : Oper := { dst := some 126, op := Go.Op.move (Go.Operand.tmp 18), type := 54, pos := "three.go:150", after := #[], guard := none }
abbrev vvm31_4 : Oper := { dst := some 127, op := Go.Op.move (Go.Operand.tmp 20), type := 3, pos := "three.go:150", after := #[], guard := none }
abbrev vvm31_5 : Oper := { dst := some 128, op := Go.Op.indexAddr 54 (Go.Operand.tmp 126) (Go.Operand.tmp 127), type := 0, pos := "three.go:150", after := #[{ on := 3, ground := Go.Ground.data }, { on := 4, ground := Go.Ground.data }], guard := none }
abbrev vvm31_6 : Oper := { dst := some 129, op := Go.Op.load 31 (Go.Operand.tmp 128), type := 31, pos := "three.go:150", after := #[{ on := 5, ground := Go.Ground.data }], guard := none }
abbrev vvm31_7 : Oper := { dst := some 130, op := Go.Op.call { callee := Go.Callee.value (Go.Operand.func 30), args := #[Go.Operand.tmp 125, Go.Operand.tmp 129], argTypes := #[31, 31] }, type := 3, pos := "three.go:150", after := #[{ on := 2, ground := Go.Ground.data }, { on := 6, ground := Go.Ground.data }, { on := 2, ground := Go.Ground.chain }], guard := none }
abbrev vvm31_8 : Oper := { dst := some 131, op := Go.Op.binOp Go.BinOp.neq 3 (Go.Operand.tmp 130) (Go.Operand.const (Go.Value.int Go.IntKind.i64 0)) 3, type := 4, pos := "three.go:150", after := #[{ on := 7, ground := Go.Ground.data }], guard := none }
set_option maxRecDepth 100000 in
set_option maxHeartbeats 16000000 in
theorem law_VecMat (w : World) (ht : Tab w) (a : Int) (vc vd : Value) (us xs : List (List UInt8)) (hc : StrsArg w vc us) (hd : StrsArg w vd xs) (hus : us.length ≤ 9223372036854775807) (hxs : xs.length ≤ 9223372036854775807) (hub : ∀ y ∈ us, y.length ≤ 9223372036854775807) (hxb : ∀ y ∈ xs, y.length ≤ 9223372036854775807)
    (ha1 : -9223372036854775808 ≤ a) (ha2 : a ≤ 9223372036854775807) :
    Calls Tryz.prog 5 #[.int .i64 a, vc, vd] w (Keeps (.bool true) w) := by
  obtain ⟨rn, hrn⟩ : ∃ r, a.tmod 5 = r := ⟨_, rfl⟩
  obtain ⟨n, mn, hmn, hon, h0n, h1n⟩ : ∃ n m : Nat, (rn + 5).tmod 5 = (m : Int) ∧ (1 : Int) + (m : Int) = (n : Int) ∧ 0 < n ∧ n ≤ 5 := by
    have a1 := Int.lt_tmod_of_pos a (show (0 : Int) < 5 by omega)
    have a2 := Int.tmod_lt_of_pos a (show (0 : Int) < 5 by omega)
    have a3 := Int.tmod_nonneg (a := rn + 5) 5 (by omega)
    have a4 := Int.tmod_lt_of_pos (rn + 5) (show (0 : Int) < 5 by omega)
    exact ⟨1 + ((rn + 5).tmod 5).toNat, ((rn + 5).tmod 5).toNat, by omega, by omega, by omega, by omega⟩
  have hln : -4 ≤ rn ∧ rn ≤ 4 := by
    have a1 := Int.lt_tmod_of_pos a (show (0 : Int) < 5 by omega)
    have a2 := Int.tmod_lt_of_pos a (show (0 : Int) < 5 by omega)
    omega
  have CB := Lib.hid (law_begun w ht)
  have HT := Lib.hid ht
  have CM : Hid (∀ W, Below w.heap.size w W → Calls Tryz.prog 24 #[.int .i64 n, .int .i64 n, vc] W (TextsMade n n W)) := Lib.hid fun W h => law_matrix W n n vc us (hc.keep h) hus hub (by omega) h0n (by omega) h0n
  have CF : Hid (∀ W V, (V : List UInt8).length ≤ 1000 → Below w.heap.size w W → Calls Tryz.prog 27 #[.string ⟨V.toArray⟩] W (fun e w' => ∃ x l, e = .returned x ∧ FracPtr w' x (fracOf l) ∧ FracGood l ∧ fracText (fracOf l) = l ∧ l.length ≤ 1000 ∧ Below W.heap.size W w')) := Lib.hid fun W V hV h => law_F2 W (HT.out.keep h) V hV
  obtain ⟨i1, hi1, hz1, hsz1, hby1⟩ := info_pf
  obtain ⟨ic, hic, hzc, hszc, hbyc⟩ := info_coef
  obtain ⟨A1, n1, q1, rfl⟩ : ∃ A n c, vc = .slice A n c := by obtain ⟨A, c, h, _⟩ := hc; exact ⟨_, _, _, h⟩
  obtain ⟨A2, c2, rfl, hxc⟩ := hd
  have HXC := Lib.hid hxc; have HXB := Lib.hid hxb
  have CNV : Hid (∀ W sv B cl q, Below w.heap.size w W → OwnCoefs W B 47 sv cl → RowCs cl n q → Calls Tryz.prog 20 #[sv] W (fun e w' => ∃ b ps, e = .returned (.tuple #[.pointer (some ⟨b, 0, none⟩), .bool true]) ∧ VecPtr w' (.pointer (some ⟨b, 0, none⟩)) ps ∧ ps.length ≤ 10 ∧ ps.Perm (partsOf cl) ∧ Rising ps ∧ (∀ p ∈ ps, Fits 2000 p.2) ∧ Below W.heap.size W w')) := Lib.hid fun W sv B cl q h ho hc => by
    have hok := hc.ok (by omega)
    have hl := hc.1
    refine (vec_New W sv cl ho.in_ (by omega) (fun x hx => by have := hok.2 x hx; omega) (HT.out.keep h)).mono ?_
    rintro e w' (⟨hno, _⟩ | ⟨_, x, ps, rfl, hv, hp, hr, _, hb⟩)
    · exact absurd hok.1.good hno
    · obtain ⟨b, hx⟩ : ∃ b, x = .pointer (some ⟨b, 0, none⟩) := by obtain ⟨b, _, _, h, _⟩ := hv; exact ⟨b, h⟩
      subst hx
      have h4 := parts_len hp
      exact ⟨b, ps, rfl, hv, by omega, hp, hr, parts_fits hok.1 hp, hb⟩
  clear hc hxc hus hub hxb ht hxs
  go_enter Tryz.func5, Tryz.ntmps5
  go_wp2_with fail
  refine CB.out.mono ?_
  rintro e w1 ⟨rfl, hb1'⟩
  clear CB
  have CM1 := Lib.hid (CM.out w1 hb1')
  go_wp2_with fail
  go_at_call 24
  refine CM1.out.mono ?_
  rintro e w2 ⟨sb, cs, tb, tc, tx, rfl, hcs, ho, htc, hx, hgd, hb2'⟩
  have B2 := below_seq hb1' hb2'
  obtain ⟨M, hM⟩ : ∃ M : Mtx, M = fun i j => fracOf (tx i j) := ⟨_, rfl⟩
  have HFM : Hid (FitsM 2000 n n M) := Lib.hid fun i j hi hj => by rw [hM]; exact good_fits (hgd i j hi hj).1
  have CN0 := mat_New_all w2 sb 0 n n cs tb (fun _ => 0) tc tx ho hx (fun i j hi hj => ⟨(hgd i j hi hj).1, Nat.le_trans (hgd i j hi hj).2 (by omega)⟩) (HT.out.keep B2) (by omega) h0n (by omega) h0n hcs htc
  rw [← hM] at CN0
  have CN := Lib.hid CN0
  have HO := Lib.hid ho; have HX := Lib.hid hx; have HGD := Lib.hid hgd; have HTC := Lib.hid htc
  have HME : Hid (∀ i j, M i j = fracOf (tx i j)) := Lib.hid fun i j => by rw [hM]
  clear CN0 hM ho htc hx hgd CM CM1
  go_wp2_with fail
  go_at_call 25
  refine CN.out.mono ?_
  rintro e w3 h3
  obtain ⟨mb, rfl, hmr, hb3⟩ := h3.read
  have B3 := below_seq B2 hb3
  have HMR := Lib.hid hmr
  clear h3 hmr CN
  go_wp2_with fail
  go_loopw [13, 11, 12] (fun t s s2 wr => ∃ (k : Nat) (ps : List (Option Addr)) (q : Nat → Rat) (cl : List VCoef), t = .int .i64 k ∧ k ≤ n ∧ ps.length = k ∧ Hid (OwnK ptrKind wr w3.heap.size 31 1 s k (ps.map Value.pointer)) ∧ Hid (∀ (i : Nat) p, ps[i]? = some p → FracPtr wr (.pointer p) (q i)) ∧ Hid (∀ i, Fits 2000 (q i)) ∧ Hid (OwnCoefs wr w3.heap.size 47 s2 cl) ∧ Hid (RowCs cl k q) ∧ Below w3.heap.size w3 wr) (fun t _ _ _ => n - (intOf t).toNat)
  case atStart => exact ⟨0, [], fun _ => 0, [], rfl, Nat.zero_le _, rfl, Lib.hid (OwnK.nil_ _ _ _ _ _), Lib.hid (fun i p hp => by simp at hp), Lib.hid (fun i => (fits_of (n := 0) (by omega) (by omega)).mono (by omega)), Lib.hid (OwnK.nil_ _ _ _ _ _), Lib.hid ⟨rfl, fun j x hx => by simp at hx⟩, Below.refl _ _⟩
  case round =>
    obtain ⟨k, ps, q, cl, rfl, hk, hpl, hown, hps, hq, hownc, hcl, hbr⟩ := hrel
    have B5 := below_seq B3 hbr
    by_cases hkc : k < n
    · have hkc' := Int.ofNat_lt.2 hkc
      have hcll := hcl.out.1
      obtain ⟨A8, c8, hs2⟩ := hownc.out.shape
      rw [hcll] at hs2
      subst hs2
      by_cases hkx : k < xs.length
      case' pos =>
        have hkx' := Int.ofNat_lt.2 hkx
        obtain ⟨y, hy⟩ : ∃ y, xs[k]? = some y := ⟨xs[k], by simp [hkx]⟩
        obtain ⟨gy, oy, rfl, hcy⟩ := HXC.out k y hy
        have hcy' := cell_keep hcy B5
        have hyl := HXB.out y (List.mem_of_getElem? hy)
        have CT : Hid (∀ W, Calls Tryz.prog 26 #[.string ⟨y.toArray⟩, .int .i64 20] W (Keeps (.string ⟨(y.take 20).toArray⟩) W)) := Lib.hid fun W => law_Text W y 20 hyl (by omega)
        obtain ⟨V, hV⟩ : ∃ V : List UInt8, V = y.take 20 := ⟨_, rfl⟩
        have hVl : V.length ≤ 1000 := by rw [hV, List.length_take]; omega
        rw [← hV] at CT
        clear hy hcy hyl hV
        go_wp2_with fail
        go_at_call 26
        refine (CT.out _).mono ?_
        rintro e wz ⟨rfl, hbz⟩
        clear CT
        go_upto_region 15 with fail
      case' neg =>
        have hkx' : ¬ ((k : Nat) : Int) < ((xs.length : Nat) : Int) := fun h => hkx (Int.ofNat_lt.1 h)
        obtain ⟨V, hV⟩ : ∃ V : List UInt8, V = [51] := ⟨_, rfl⟩
        have hVl : V.length ≤ 1000 := by rw [hV]; simp
        have HVE : Hid ((⟨#[51]⟩ : ByteArray) = ⟨V.toArray⟩) := Lib.hid (by rw [hV])
        obtain ⟨wz, hwz⟩ : ∃ X, X = wr := ⟨_, rfl⟩
        have hbz : Below wr.heap.size wr wz := by rw [hwz]; exact Below.refl _ _
        have HWZ := Lib.hid hwz
        clear hV hwz hkx
        go_upto_region 15 with fail
        rw [HVE.out, ← HWZ.out]
      all_goals
        have CFV := Lib.hid (CF.out wz V hVl (below_seq B5 hbz))
        go_wp2_with fail
        go_at_call 27
        refine CFV.out.mono ?_
        rintro e w4 ⟨z, l, rfl, hz4, hgl, htl, hll, hb4'⟩
        have hb4 := below_seq hbz hb4'
        obtain ⟨z0, rfl⟩ := hz4.ptr
        obtain ⟨cw, hcw⟩ : ∃ X, X = w4.alloc (.cells #[.pointer z0] 31) := ⟨_, rfl⟩
        have hal : Below w4.heap.size w4 cw := by rw [hcw]; exact (Below.refl _ _).alloc (Nat.le_refl _) _
        have hRc : Row cw w4.heap.size 31 #[.pointer z0] := by rw [hcw]; exact Row.new _ _ _
        have hB5 : Below wr.heap.size wr cw := below_seq hb4 hal
        have hown5 := Lib.hid (hown.out.keep hB5)
        have hownc5 := Lib.hid (OwnK.keep hownc.out hB5)
        have hnew5 : Hid (∀ (j : Nat) u, [Value.pointer z0][j]? = some u → cw.cell? ((⟨w4.heap.size, 0, none⟩ : Addr).add j) = some u) := Lib.hid fun j u hj => by
          rcases j with _ | j
          · cases hj
            exact hRc.cell 0
          · simp at hj
        have hk5 : w3.heap.size ≤ cw.heap.size := Nat.le_trans hbr.size hB5.size
        have HZ4 := Lib.hid (hz4.keep hal)
        have HGL := Lib.hid hgl
        have HFL := Lib.hid (good_fits hgl)
        have HCW := Lib.hid hcw
        obtain ⟨Q, hQ⟩ : ∃ Q, Q = fracOf l := ⟨_, rfl⟩
        rw [← hQ] at HZ4 HFL htl
        have HQ := Lib.hid hQ
        clear hz4 CFV hbz hb4' hgl hcw hRc hQ
        go_upto_region 16 with fail
        go_wp2_with (at_builtin; rw [← HCW.out]; refine wpList_append_ownK (Kd := ptrKind) rfl (.tmp 60) (.tmp 62) 54 rfl w3.heap.size 31 i1 _ 1 Tryz.underlying54 hi1 hz1 hsz1 rfl (by omega) _ k _ rfl hown5.out ⟨w4.heap.size, 0, none⟩ 1 1 [Value.pointer z0] rfl (by simp) hnew5.out (by simp [Value.oneCell']) (by simp [ptrKind]) (by simp [ptrKind, Value.cells]) (by omega) (by unfold maxLen; omega) (by rw [hby1]; omega) hk5 ?_; intro v6 w6 hown6 hgr6 hloc6; refine Hid.out ?_)
        have hps6 : Hid (∀ (j : Nat) p, (ps ++ [z0])[j]? = some p → FracPtr w6 (.pointer p) (if j = k then Q else q j)) := Lib.hid fun j p hj => by
          refine frs_grown hown5.out hgr6 ?_
          rcases Nat.lt_or_ge j k with h4 | h4
          · rw [List.getElem?_append_left (by omega)] at hj
            rw [if_neg (by omega)]
            exact (hps.out j p hj).keep hB5
          · rw [List.getElem?_append_right (by omega)] at hj
            rcases hjn : j - ps.length with _ | m
            · rw [hjn] at hj
              simp only [List.getElem?_cons_zero, Option.some.injEq] at hj
              subst hj
              obtain rfl : j = k := by omega
              rw [if_pos rfl]
              exact HZ4.out
            · rw [hjn] at hj; simp at hj
        have hz6 : Hid (FracPtr w6 (.pointer z0) Q) := Lib.hid (frs_grown hown5.out hgr6 HZ4.out)
        have hownc6 : Hid (OwnK coefKind w6 w3.heap.size 47 2 (.slice A8 k c8) cl.length (cl.flatMap encCoef)) := Lib.hid (hownc5.out.stay fun g hg => hgr6.block g (hownc5.out.lt hg).2 (fun e => own_apart hownc5.out hown5.out (by decide) hg e.symm))
        have hB6 : Below w3.heap.size w3 w6 := hown.out.below hbr hB5 hgr6 hbr.size
        have HO6 : Hid (OwnK ptrKind w6 w3.heap.size 31 1 v6 (k + 1) ((ps ++ [z0]).map Value.pointer)) := by
          rw [List.map_append]
          exact hown6
        have HQ6 : Hid (∀ i, Fits 2000 (if i = k then Q else q i)) := Lib.hid fun i => by
          split
          · exact HFL.out
          · exact hq.out i
        have HPL : (ps ++ [z0]).length = k + 1 := by rw [List.length_append, hpl]; rfl
        have CX := Lib.hid (frac_Text w6 (.pointer z0) Q hz6.out.at_ (HFL.out.mono (by omega)) (HT.out.keep (below_seq B3 hB6)))
        rw [htl] at CX
        clear hown6 hgr6 hloc6 hown5 hownc5
        refine Lib.hid ?_
        go_wp2_with fail
        go_at_call 18
        refine CX.out.mono ?_
        rintro e w7 ⟨rfl, hb7⟩
        obtain ⟨cw2, hcw2⟩ : ∃ X, X = w7.alloc (.cells #[.int .i64 k, .string ⟨l.toArray⟩] 47) := ⟨_, rfl⟩
        have hal2 : Below w7.heap.size w7 cw2 := by rw [hcw2]; exact (Below.refl _ _).alloc (Nat.le_refl _) _
        have hRc2 : Row cw2 w7.heap.size 47 #[.int .i64 k, .string ⟨l.toArray⟩] := by rw [hcw2]; exact Row.new _ _ _
        have hB67 : Below w6.heap.size w6 cw2 := below_seq hb7 hal2
        have hownc7 := hownc6.out.keep hB67
        rw [hcll] at hownc7
        have HOC7 := Lib.hid hownc7
        have hown7 := Lib.hid (HO6.out.keep hB67)
        have hnews := Lib.hid (one_row hRc2)
        have hk7 : w3.heap.size ≤ cw2.heap.size := Nat.le_trans hB6.size hB67.size
        have HCW2 := Lib.hid hcw2
        clear hcw2 hRc2 hownc7 CX
        go_wp2_with (at_builtin; rw [← HCW2.out]; refine wpList_append_ownK (Kd := coefKind) rfl (.tmp 64) (.tmp 69) 38 rfl w3.heap.size 47 ic _ 2 Tryz.underlying38 hic hzc hszc rfl (by omega) _ k _ rfl HOC7.out ⟨w7.heap.size, 0, none⟩ 1 1 (encCoef ((k : Int), l)) rfl (by simp [encCoef]) hnews.out (by simp [Value.oneCell', encCoef]) (encCoef_kind _) (by simp [coefKind, Value.cells]) (by omega) (by unfold maxLen; omega) (by rw [hbyc]; omega) hk7 ?_; intro v8 w8 hown8 hgr8 hloc8; refine Hid.out ?_)
        have hcl8 : Hid (RowCs (cl ++ [((k : Int), l)]) (k + 1) (fun i => if i = k then Q else q i)) := Lib.hid (hcl.out.push (fun j hj => by rw [if_neg (by omega)]) ⟨HGL.out, by rw [if_pos rfl]; exact HQ.out.symm, by omega⟩)
        have HOC8 : Hid (OwnCoefs w8 w3.heap.size 47 v8 (cl ++ [((k : Int), l)])) := Lib.hid (by
          unfold OwnCoefs
          rw [hcl8.out.1, List.flatMap_append]
          simpa using hown8)
        have HO8 : Hid (OwnK ptrKind w8 w3.heap.size 31 1 v6 (k + 1) ((ps ++ [z0]).map Value.pointer)) := Lib.hid (hown7.out.stay fun g hg => hgr8.block g (hown7.out.lt hg).2 (fun e => own_apart hown7.out HOC7.out (by decide) hg e.symm))
        have hps8 : Hid (∀ (j : Nat) p, (ps ++ [z0])[j]? = some p → FracPtr w8 (.pointer p) (if j = k then Q else q j)) := Lib.hid fun j p hj => ((hps6.out j p hj).keep hB67).stayT fun b hb => by
          by_cases e : (Value.slice A8 k c8).ownBlock = some b
          · exact .inl (talien_own HOC7.out (by decide) (fun u hu => coefKind_ne hu) e)
          · exact .inr (hgr8.block b hb (fun e' => e e'.symm))
        have hB8 : Below w3.heap.size w3 w8 := by
          have h1 := hB6.trans (hB67.mono hB6.size)
          refine ⟨hgr8.os.trans h1.os, hgr8.tape.trans h1.tape, hgr8.output.trans h1.output, Nat.le_trans h1.size hgr8.size, fun j hj => (hgr8.block j (Nat.lt_of_lt_of_le hj h1.size) (fun e => ?_)).trans (h1.block j hj)⟩
          have := (HOC7.out.lt e.symm).1
          omega
        clear hown8 hgr8 hloc8
        refine Lib.hid ?_
        go_wp2_with fail
        go_roundw
        case rel => exact ⟨k + 1, ps ++ [z0], _, _, by first | rfl | go_num, by omega, HPL, HO8, hps8, HQ6, HOC8, hcl8, hB8⟩
        case measure => simp [intOf]; omega
    · obtain rfl : k = n := by omega
      have hfx := own_frin hown.out h0n hpl hps.out
      have CW := Lib.hid (CNV.out wr u12 _ cl q B5 hownc.out hcl.out)
      obtain ⟨A8, c8, hs2⟩ := hownc.out.shape
      rw [hcl.out.1] at hs2
      subst hs2
      have CT : Hid (∀ W v, Below wr.heap.size wr W → FrIn W v k q → Calls Tryz.prog 28 #[.pointer (some ⟨mb, 0, none⟩), v] W (fun e w' => ∃ y, e = .returned (.tuple #[y, .bool true]) ∧ FrIn w' y k (fun i => sigma k fun j => M i j * q j) ∧ Below W.heap.size W w')) := Lib.hid fun W v h hv => mat_Times W _ v k k 2000 M q (HMR.out.keep (below_seq hbr h)) hv HFM.out (fun j _ => hq.out j) h0n (by omega) (by omega) (by omega)
      have HCL := Lib.hid hcl.out
      have HOWNX := Lib.hid hown.out
      obtain ⟨gx, cx, hsx⟩ := hown.out.shape h0n
      subst hsx
      have HFX := Lib.hid hfx
      clear hownc hcl hps hfx hown
      go_wp2_with fail
      go_at_call 20
      refine CW.out.mono ?_
      rintro e w5 ⟨vb, pw, rfl, hvw, hlw, hpw, hrw, hfw, hb5⟩
      have HVW := Lib.hid hvw; have HPW := Lib.hid hpw; have HRW := Lib.hid hrw; have HFW := Lib.hid hfw
      have CT5 := Lib.hid (CT.out w5 _ hb5 (HFX.out.keep hb5))
      clear hvw hpw hrw hfw CW
      go_wp2_with fail
      go_at_call 28
      refine CT5.out.mono ?_
      rintro e w6 ⟨yv, rfl, hy6, hb6⟩
      have z6 := below_seq hb5 hb6
      obtain ⟨gy, oy, cy, rfl, hcy, by_, hby_⟩ := hy6.pick
      have HBY := Lib.hid hby_
      have HVW6 := Lib.hid (HVW.out.keep hb6)
      have K2 : Hid (∀ W, Below w6.heap.size w6 W → Below w2.heap.size w2 W) := Lib.hid fun W h => below_seq (below_seq hb3 (below_seq hbr z6)) h
      have ZW : Hid (∀ W, Below w6.heap.size w6 W → Below w.heap.size w W) := Lib.hid fun W h => below_seq B2 (K2.out W h)
      have KR : Hid (∀ W, Below w6.heap.size w6 W → Below wr.heap.size wr W) := Lib.hid fun W h => below_seq z6 h
      have HMRr : Hid (∀ W, Below w6.heap.size w6 W → MatR W (.pointer (some ⟨mb, 0, none⟩)) k k M) := Lib.hid fun W h => HMR.out.keep (below_seq hbr (KR.out W h))
      obtain ⟨wr0, hwr0⟩ : ∃ X, X = wr := ⟨_, rfl⟩
      subst wr
      have HBR3 := Lib.hid hbr; have HB3 := Lib.hid B3
      clear hy6 hby_ CT5 CT HVW z6 hb5 hb6 B5 hbr hb3 B3 B2 hb1' hb2' CF HXC HXB
      go_wp2_with fail
      go_loopw [94] (fun t wx => ∃ j : Nat, t = .int .i64 j ∧ j ≤ k ∧ Below w6.heap.size w6 wx) (fun t _ => k - (intOf t).toNat)
      case atStart => exact ⟨0, rfl, Nat.zero_le _, Below.refl _ _⟩
      case round =>
        obtain ⟨i, rfl, hi, hbx⟩ := hrel
        by_cases hik : i < k
        · have hik' := Int.ofNat_lt.2 hik
          have c1 := cell_keep (HO.out i hik) (K2.out _ hbx)
          rw [Nat.zero_add] at c1
          have tci := HTC.out i hik
          obtain ⟨W, hW⟩ : ∃ X, X = wr := ⟨_, rfl⟩
          subst wr
          go_wp2_with fail
          go_loopw [102, 21] (fun t s wy => ∃ (j : Nat) (dl : List VCoef), t = .int .i64 j ∧ j ≤ k ∧ Hid (OwnCoefs wy W.heap.size 47 s dl) ∧ Hid (RowCs dl j (M i)) ∧ Below W.heap.size W wy) (fun t _ _ => k - (intOf t).toNat)
          case atStart => exact ⟨0, [], rfl, Nat.zero_le _, Lib.hid (OwnK.nil_ _ _ _ _ _), Lib.hid ⟨rfl, fun j x hx => by simp at hx⟩, Below.refl _ _⟩
          case round =>
            obtain ⟨j, dl, rfl, hj, hownd, hdl, hbw⟩ := hrel
            have hB := below_seq hbx hbw
            have hdll := hdl.out.1
            obtain ⟨A9, c9, hs9⟩ := hownd.out.shape
            rw [hdll] at hs9
            by_cases hjk : j < k
            · have hjk' := Int.ofNat_lt.2 hjk
              subst hs9
              have c2 := cell_keep c1 hbw
              have c3 := cell_keep (HX.out i j hik hjk) (K2.out _ hB)
              rw [Nat.zero_add] at c3
              have hgj := HGD.out i j hik hjk
              have hmj := HME.out i j
              obtain ⟨l, hl⟩ : ∃ l, l = tx i j := ⟨_, rfl⟩
              rw [← hl] at c3 hgj hmj
              have HGJ := Lib.hid hgj; have HMJ := Lib.hid hmj
              obtain ⟨cw2, hcw2⟩ : ∃ X, X = wr.alloc (.cells #[.int .i64 j, .string ⟨l.toArray⟩] 47) := ⟨_, rfl⟩
              have hal2 : Below wr.heap.size wr cw2 := by rw [hcw2]; exact (Below.refl _ _).alloc (Nat.le_refl _) _
              have hRc2 : Row cw2 wr.heap.size 47 #[.int .i64 j, .string ⟨l.toArray⟩] := by rw [hcw2]; exact Row.new _ _ _
              have hownd2 := OwnK.keep hownd.out hal2
              rw [hdll] at hownd2
              have HOD := Lib.hid hownd2
              have hnews := Lib.hid (one_row hRc2)
              have hk7 : W.heap.size ≤ cw2.heap.size := Nat.le_trans hbw.size hal2.size
              have HCW2 := Lib.hid hcw2
              clear hcw2 hRc2 hownd2 hl hgj hmj
              go_wp2_with (at_builtin; rw [← HCW2.out]; refine wpList_append_ownK (Kd := coefKind) rfl (.tmp 105) (.tmp 115) 38 rfl W.heap.size 47 ic _ 2 Tryz.underlying38 hic hzc hszc rfl (by omega) _ j _ rfl HOD.out ⟨wr.heap.size, 0, none⟩ 1 1 (encCoef ((j : Int), l)) rfl (by simp [encCoef]) hnews.out (by simp [Value.oneCell', encCoef]) (encCoef_kind _) (by simp [coefKind, Value.cells]) (by omega) (by unfold maxLen; omega) (by rw [hbyc]; omega) hk7 ?_; intro v8 w8 hown8 hgr8 hloc8; refine Hid.out ?_)
              have hdl8 : Hid (RowCs (dl ++ [((j : Int), l)]) (j + 1) (M i)) := Lib.hid (hdl.out.push (fun _ _ => rfl) ⟨HGJ.out.1, HMJ.out.symm, HGJ.out.2⟩)
              have HOD8 : Hid (OwnCoefs w8 W.heap.size 47 v8 (dl ++ [((j : Int), l)])) := Lib.hid (by
                unfold OwnCoefs
                rw [hdl8.out.1, List.flatMap_append]
                simpa using hown8)
              have hB8 : Below W.heap.size W w8 := hownd.out.below hbw hal2 hgr8 hbw.size
              clear hown8 hgr8 hloc8
              refine Lib.hid ?_
              go_wp2_with fail
              go_roundw
              case rel => exact ⟨j + 1, _, by first | rfl | go_num, by omega, HOD8, hdl8, hB8⟩
              case measure => simp [intOf]; omega
            · obtain rfl : j = k := by omega
              have CW2 := Lib.hid (CNV.out wr u21 _ dl (M i) (ZW.out _ hB) hownd.out hdl.out)
              subst hs9
              have HDL := Lib.hid hdl.out
              have HBR := Lib.hid hB
              clear hownd hdl c1
              go_wp2_with fail
              go_at_call 20
              refine CW2.out.mono ?_
              rintro e w9 ⟨db, pd, rfl, hvd, hld, hpd, hrd, hfd, hb9⟩
              have z9 := below_seq HBR.out hb9
              have hdot : dotV pd pw = sigma j fun m => M i m * q m := rows_dot (by omega) HDL.out HCL.out hpd HPW.out hrd HRW.out
              have hfdot : Fits 200000 (dotV pd pw) := (dot_fits (L := 2000) (by omega) hfd HFW.out).mono (by have := Nat.mul_le_mul_right (2 * 2000 + 1) hld; omega)
              have CD : Hid (∀ X, Below w9.heap.size w9 X → Calls Tryz.prog 29 #[.pointer (some ⟨db, 0, none⟩), .pointer (some ⟨vb, 0, none⟩)] X (Gives (fun x w' => FracPtr w' x (sigma j fun m => M i m * q m)) X)) := Lib.hid fun X h => by
                rw [← hdot]
                exact vec_Dot X _ _ pd pw 2000 (.inr (hvd.keep h)) (.inr (HVW6.out.keep (below_seq z9 h))) (by omega) (by omega) (by omega) (by omega) hfd HFW.out
              rw [hdot] at hfdot
              obtain ⟨S, hS⟩ : ∃ S, S = sigma j fun m => M i m * q m := ⟨_, rfl⟩
              have hyi := HBY.out i hik
              rw [← hS] at CD hfdot hyi
              have HYI : Hid (∀ X, Below w9.heap.size w9 X → X.cell? ⟨gy, oy + i, none⟩ = some (.pointer (by_ i)) ∧ FracPtr X (.pointer (by_ i)) S) := Lib.hid fun X h => ⟨cell_keep hyi.1 (below_seq z9 h), hyi.2.keep (below_seq z9 h)⟩
              have HFD := Lib.hid hfdot
              clear hvd hpd hrd hfd hdot hS hyi CW2 hfdot HDL hbw hB
              go_wp2_with fail
              refine wp_region_held (S := fun X : World => Below w9.heap.size w9 X) (by kernel_rfl) ?_
              change wpAnyH _ _ _ _ _ _ _ _ (World.drew _)
              obtain ⟨X0, hX0⟩ : ∃ X, X = (w9).drew := ⟨_, rfl⟩
              rw [← hX0]
              have y0 : Below (w9).heap.size (w9) X0 := by rw [hX0]; exact Below.drewN_ (Below.refl _ _) 1
              clear hX0
              refine wpAnyH_take (i := 0) (oi := vvm31_0) (v := .pointer (some ⟨db, 0, none⟩)) rfl (by kernel_rfl) (by kernel_rfl) (by kernel_rfl) (fun _ _ _ h => h) (Or.inl ⟨by kernel_rfl, ?_⟩) (y0) ?_
              · intro w hSw; go_simp <;> first | omega | (intro hh; exfalso; omega) | rfl
              try simp only [Act.put, List.setIfInBounds_toArray, List.set_cons_zero, List.set_cons_succ, vvm31_0]
              refine wpAnyH_take (i := 1) (oi := vvm31_1) (v := .pointer (some ⟨vb, 0, none⟩)) rfl (by kernel_rfl) (by kernel_rfl) (by kernel_rfl) (fun _ _ _ h => h) (Or.inl ⟨by kernel_rfl, ?_⟩) (y0) ?_
              · intro w hSw; go_simp <;> first | omega | (intro hh; exfalso; omega) | rfl
              try simp only [Act.put, List.setIfInBounds_toArray, List.set_cons_zero, List.set_cons_succ, vvm31_1]
              refine wpAnyH_take (i := 3) (oi := vvm31_3) (v := .slice (some ⟨gy, oy, none⟩) j cy) rfl (by kernel_rfl) (by kernel_rfl) (by kernel_rfl) (fun _ _ _ h => h) (Or.inl ⟨by kernel_rfl, ?_⟩) (y0) ?_
              · intro w hSw; go_simp <;> first | omega | (intro hh; exfalso; omega) | rfl
              try simp only [Act.put, List.setIfInBounds_toArray, List.set_cons_zero, List.set_cons_succ, vvm31_3]
              refine wpAnyH_take (i := 4) (oi := vvm31_4) (v := .int .i64 i) rfl (by kernel_rfl) (by kernel_rfl) (by kernel_rfl) (fun _ _ _ h => h) (Or.inl ⟨by kernel_rfl, ?_⟩) (y0) ?_
              · intro w hSw; go_simp <;> first | omega | (intro hh; exfalso; omega) | rfl
              try simp only [Act.put, List.setIfInBounds_toArray, List.set_cons_zero, List.set_cons_succ, vvm31_4]
              refine wpAnyH_take (i := 5) (oi := vvm31_5) (v := .pointer (some ⟨gy, oy + i, none⟩)) rfl (by kernel_rfl) (by kernel_rfl) (by kernel_rfl) (fun _ _ _ h => h) (Or.inl ⟨by kernel_rfl, ?_⟩) (y0) ?_
              · intro w hSw; go_simp <;> first | omega | (intro hh; exfalso; omega) | rfl
              try simp only [Act.put, List.setIfInBounds_toArray, List.set_cons_zero, List.set_cons_succ, vvm31_5]
              refine wpAnyH_take (i := 6) (oi := vvm31_6) (v := .pointer (by_ i)) rfl (by kernel_rfl) (by kernel_rfl) (by kernel_rfl) (fun _ _ _ h => h) (Or.inl ⟨by kernel_rfl, ?_⟩) (y0) ?_
              · intro w hSw; obtain ⟨e0, _⟩ := HYI.out w hSw; go_simp <;> first | omega | (intro hh; exfalso; omega) | rfl
              try simp only [Act.put, List.setIfInBounds_toArray, List.set_cons_zero, List.set_cons_succ, vvm31_6]
              refine wpAnyH_ready (rs := [2]) (by kernel_rfl) (by simp) ?_
              apply AllReadyH.cons (o := vvm31_2) (by kernel_rfl)
              case hs => exact AllReadyH.nil
              intro K hK
              simp only [vvm31_2]
              go_simp
              go_at_call 29
              refine (CD.out _ y0).mono ?_
              rintro e' X1 ⟨x1, rfl, hx1, b1⟩
              have y1 := below_seq y0 b1
              have HX1 := Lib.hid hx1
              obtain ⟨p1, rfl⟩ := hx1.ptr
              clear hx1
              refine hK.out _ _ (y1) (fun hHeld => ?_)
              clear hK K hHeld
              try simp only [Act.put, List.setIfInBounds_toArray, List.set_cons_zero, List.set_cons_succ]
              refine wpAnyH_ready (rs := [7]) (by kernel_rfl) (by simp) ?_
              apply AllReadyH.cons (o := vvm31_7) (by kernel_rfl)
              case hs => exact AllReadyH.nil
              intro K hK
              simp only [vvm31_7]
              go_simp
              go_at_call 30
              refine (frac_Cmp_same X1 _ _ S HX1.out.at_ (HYI.out _ y1).2.at_ (HFD.out.mono (by omega))).mono ?_
              rintro e' X2 ⟨rfl, b2⟩
              have y2 := below_seq y1 b2
              refine hK.out _ _ (y2) (fun hHeld => ?_)
              clear hK K hHeld
              try simp only [Act.put, List.setIfInBounds_toArray, List.set_cons_zero, List.set_cons_succ]
              refine wpAnyH_take (i := 8) (oi := vvm31_8) (v := .bool false) rfl (by kernel_rfl) (by kernel_rfl) (by kernel_rfl) (fun _ _ _ h => h) (Or.inl ⟨by kernel_rfl, ?_⟩) (y2) ?_
              · intro w hSw; go_simp <;> first | omega | (intro hh; exfalso; omega) | rfl
              try simp only [Act.put, List.setIfInBounds_toArray, List.set_cons_zero, List.set_cons_succ, vvm31_8]
              refine wpAnyH_done (by kernel_rfl) ?_ _
              have ZZ := Lib.hid (below_seq z9 y2)
              go_wp2_with fail
              exact ⟨⟨i + 1, by go_num, by omega, ZZ.out⟩, by simp [intOf]; omega⟩
        · obtain rfl : i = k := by omega
          have CO := Lib.hid (frac_Of wr 1 (by omega) (by omega))
          go_wp2_with fail
          go_at_call 23
          refine CO.out.mono ?_
          rintro e w7 ⟨z, rfl, hz, hb7⟩
          obtain ⟨z0, rfl⟩ := hz.ptr
          obtain ⟨cw, hcw⟩ : ∃ X, X = w7.alloc (.cells #[.pointer z0] 31) := ⟨_, rfl⟩
          have hal : Below w7.heap.size w7 cw := by rw [hcw]; exact (Below.refl _ _).alloc (Nat.le_refl _) _
          have hRc : Row cw w7.heap.size 31 #[.pointer z0] := by rw [hcw]; exact Row.new _ _ _
          have hb67 := below_seq hbx (below_seq hb7 hal)
          have hown5 := Lib.hid (HOWNX.out.keep (KR.out _ hb67))
          have hnew5 : Hid (∀ (j : Nat) u, [Value.pointer z0][j]? = some u → cw.cell? ((⟨w7.heap.size, 0, none⟩ : Addr).add j) = some u) := Lib.hid fun j u hj => by
            rcases j with _ | j
            · cases hj
              exact hRc.cell 0
            · simp at hj
          have hk5 : w3.heap.size ≤ cw.heap.size := by
            have h1 := (HOWNX.out.lt (g := gx) rfl).1
            have h2 := (hown5.out.lt (g := gx) rfl).2
            omega
          have HCW := Lib.hid hcw
          clear hz hcw hRc CO
          go_wp2_with (at_builtin; rw [← HCW.out]; refine wpList_append_ownK (Kd := ptrKind) rfl (.tmp 135) (.tmp 137) 54 rfl w3.heap.size 31 i1 _ 1 Tryz.underlying54 hi1 hz1 hsz1 rfl (by omega) _ i _ rfl hown5.out ⟨w7.heap.size, 0, none⟩ 1 1 [Value.pointer z0] rfl (by simp) hnew5.out (by simp [Value.oneCell']) (by simp [ptrKind]) (by simp [ptrKind, Value.cells]) (by omega) (by unfold maxLen; omega) (by rw [hby1]; omega) hk5 ?_; intro v6 w8 hown6 hgr6 hloc6; refine Hid.out ?_)
          obtain ⟨g8, c8', rfl⟩ := hown6.shape (by omega)
          have h38 := HOWNX.out.below HBR3.out (KR.out _ hb67) hgr6 HBR3.out.size
          have CT := Lib.hid (mat_Times_no w8 _ (.slice (some ⟨g8, 0, none⟩) (i + 1) c8') i i (i + 1) M (HMR.out.keep h38) ⟨_, _, rfl⟩ (by omega) (by omega) (by omega) (by omega))
          have h08 := Lib.hid (below_seq HB3.out h38)
          clear hown6 hgr6 hloc6 h38 hb67
          refine Lib.hid ?_
          go_wp2_with fail
          go_at_call 28
          refine CT.out.mono ?_
          rintro e w9 ⟨rfl, hb9⟩
          go_wp2_with fail
          go_ret
          exact ⟨rfl, below_seq h08.out hb9⟩
end Go.Proofs.YthephiihcgibjaaGreatDoor
