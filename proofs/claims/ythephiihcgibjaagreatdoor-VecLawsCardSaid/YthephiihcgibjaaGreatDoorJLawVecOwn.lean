/- The law VecOwn: what is told is the caller's own; vectors that were added are as they were. -/
import Derived.Test.YthephiihcgibjaaGreatDoorJCoefs
import Derived.Test.YthephiihcgibjaaGreatDoorJVecE
import Derived.Test.YthephiihcgibjaaGreatDoorJWalkH
set_option linter.unusedVariables false
set_option linter.unusedSimpArgs false
namespace Vic
open Go Go.RowKit
/-- a block of coefficients: integers and texts -/
def CBlock (w : World) (g n : Nat) (T : TypeId) : Prop := ∃ cur, w.heap[g]? = some (.cells cur T (0, 0)) ∧ n * 2 ≤ cur.size ∧ ∀ u ∈ cur, coefKind u
theorem OwnCoefs.block {w : World} {B : Nat} {T : TypeId} {v : Value} {cs : List VCoef} (h : OwnCoefs w B T v cs) : (v = .slice none 0 0 ∧ cs = []) ∨ ∃ g c, v = .slice (some ⟨g, 0, none⟩) cs.length c ∧ B ≤ g ∧ g < w.heap.size ∧ cs.length ≤ c ∧ CBlock w g cs.length T := by
  have hlt := fun g hg => OwnK.lt h (g := g) hg
  obtain ⟨h1, ⟨rfl, h2⟩ | ⟨g, cap, cur, rfl, a2, a3, a4, a5, a6, a7, a8⟩⟩ := h
  · exact .inl ⟨rfl, List.eq_nil_of_length_eq_zero h2⟩
  · exact .inr ⟨g, cap, rfl, a2, (hlt g rfl).2, a4, cur, a3, by rw [a6]; exact Nat.mul_le_mul_right _ a4, a8⟩
theorem CBlock.keep {w w' : World} {g n : Nat} {T : TypeId} (h : CBlock w g n T) (hb : Below w.heap.size w w') : CBlock w' g n T := by
  obtain ⟨cur, h1, h2⟩ := h
  have hlt : g < w.heap.size := by
    rcases Nat.lt_or_ge g w.heap.size with h | h
    · exact h
    · rw [Array.getElem?_eq_none h] at h1; cases h1
  exact ⟨cur, (hb.block g hlt).trans h1, h2⟩
theorem CBlock.set {w : World} {g n : Nat} {T : TypeId} (h : CBlock w g n T) (j : Nat) {v : Value} (hv : coefKind v) : CBlock (w.setCell ⟨g, j, none⟩ v) g n T := by
  obtain ⟨cur, h1, h2, h3⟩ := h
  refine ⟨cur.setIfInBounds j v, Row.set h1 j v, by simpa using h2, fun u hu => ?_⟩
  rcases Array.mem_or_eq_of_mem_setIfInBounds hu with h | h
  · exact h3 u h
  · rw [h]; exact hv
theorem CBlock.at_ {w : World} {g n : Nat} {T : TypeId} (h : CBlock w g n T) {j : Nat} (hj : j < n * 2) : (∃ u, w.cell? ⟨g, j, none⟩ = some u) ∧ w.frozen? ⟨g, j, none⟩ = false := by
  obtain ⟨cur, h1, h2, _⟩ := h
  have hr : Row w g T cur := h1
  refine ⟨⟨cur[j]'(by omega), ?_⟩, hr.free j⟩
  rw [hr.cell, Array.getElem?_eq_getElem (by omega)]
theorem CBlock.kinds {w : World} {g n : Nat} {T : TypeId} (h : CBlock w g n T) : ∀ o u, w.cell? ⟨g, o, none⟩ = some u → coefKind u := fun o u hu => by
  obtain ⟨cur, h1, _, h3⟩ := h
  have hr : Row w g T cur := h1
  rw [hr.cell] at hu
  exact h3 u (Array.mem_of_getElem? hu)
theorem coefKind_not {u : Value} (h : coefKind u) : (∀ x, u ≠ .bool x) ∧ (∀ x, u ≠ .pointer x) ∧ (∀ A l c, u ≠ .slice A l c) ∧ (∀ x, u ≠ .int .u32 x ∨ False) ∨ ∃ k x, u = .int k x := by
  rcases h with ⟨n, rfl⟩ | ⟨s, rfl⟩
  · exact .inr ⟨_, _, rfl⟩
  · exact .inl ⟨fun x => by simp, fun x => by simp, fun A l c => by simp, fun x => .inl (by simp)⟩
theorem kind_cell {w w' : World} {g : Nat} (hk : ∀ o u, w.cell? ⟨g, o, none⟩ = some u → coefKind u) (hs : ∀ b, b ≠ g → w'.heap[b]? = w.heap[b]?) {b o : Nat} {u : Value} (h : w.cell? ⟨b, o, none⟩ = some u) (hn : ¬ coefKind u) : b ≠ g ∧ w'.cell? ⟨b, o, none⟩ = some u := by
  have hb : b ≠ g := by rintro rfl; exact hn (hk o u h)
  exact ⟨hb, by rw [cell_same (hs b hb)]; exact h⟩
theorem FracPtr.offk {w w' : World} {g : Nat} {v : Value} {q : Rat} (h : FracPtr w v q) (hk : ∀ o u, w.cell? ⟨g, o, none⟩ = some u → coefKind u) (hs : ∀ b, b ≠ g → w'.heap[b]? = w.heap[b]?) : FracPtr w' v q := by
  have hn : ∀ {v : Value} {n : Nat}, NatPtr w v n → NatPtr w' v n := by
    rintro v n ⟨b, s, h1, h2, A, c, h3, h4, h5⟩
    subst h3
    refine ⟨b, _, h1, (kind_cell hk hs h2 (by simp [coefKind])).2, A, c, rfl, h4, fun i hi => ?_⟩
    obtain ⟨b', o', h6, h7⟩ := h5 i hi
    exact ⟨b', o', h6, (kind_cell hk hs h7 (by simp [coefKind])).2⟩
  obtain ⟨b, pn, pd, h1, h2, h3, h4, h5, h6⟩ := h
  obtain ⟨hb, h2'⟩ := kind_cell hk hs h2 (by simp [coefKind])
  refine ⟨b, pn, pd, h1, h2', by rw [cell_same (hs b hb)]; exact h3, by rw [cell_same (hs b hb)]; exact h4, ?_, hn h6⟩
  rcases h5 with h5 | h5
  · exact .inl h5
  · exact .inr (hn h5)
theorem VecPtr.offk {w w' : World} {g : Nat} {v : Value} {ps : List (Int × Rat)} (h : VecPtr w v ps) (hk : ∀ o u, w.cell? ⟨g, o, none⟩ = some u → coefKind u) (hs : ∀ b, b ≠ g → w'.heap[b]? = w.heap[b]?) : VecPtr w' v ps := by
  obtain ⟨b, sv, fs, h1, h2, ⟨A, c, rfl, h4, h5⟩, h6⟩ := h
  refine ⟨b, _, fs, h1, (kind_cell hk hs h2 (by simp [coefKind])).2, ⟨A, c, rfl, h4, fun i x hx => ?_⟩, h6⟩
  obtain ⟨g', o, e, c1, c2, hf⟩ := h5 i x hx
  obtain ⟨hg, c2'⟩ := kind_cell hk hs c2 (by simp [coefKind])
  exact ⟨g', o, e, by rw [cell_same (hs g' hg)]; exact c1, c2', hf.offk hk hs⟩
theorem sz_digits {n k : Nat} (h : n < 10 ^ k) : sz n ≤ k := digs_length_le (B := 4294967296) (by omega) (Nat.lt_of_lt_of_le h (Nat.pow_le_pow_left (by omega) k))
theorem good_fits {l : List UInt8} (h : FracGood l) : Fits 2000 (fracOf l) := by
  unfold fracOf
  refine fits_quo h.2.2.1 (Nat.le_trans (sz_digits (numOf_lt _ h.1.1.2.1)) h.1.2) (Nat.le_trans (sz_digits (numOf_lt _ h.2.1.1.2.1)) h.2.1.2)
theorem parts_fits {cs : List VCoef} (h : CoefsOk cs) {ps : List (Int × Rat)} (hp : ps.Perm (partsOf cs)) : ∀ p ∈ ps, Fits 2000 p.2 := by
  intro p hm
  have h1 := hp.mem_iff.1 hm
  unfold partsOf at h1
  obtain ⟨x, hx, rfl⟩ := List.mem_map.1 (List.mem_filter.1 h1).1
  exact good_fits (h.2 x hx).2
theorem parts_len {cs : List VCoef} {ps : List (Int × Rat)} (hp : ps.Perm (partsOf cs)) : ps.length ≤ cs.length := by
  rw [hp.length_eq]
  unfold partsOf
  exact Nat.le_trans (List.length_filter_le _ _) (by simp)
theorem OwnCoefs.only {w w' : World} {B : Nat} {T : TypeId} {v : Value} {cs : List VCoef} (h : OwnCoefs w B T v cs) {g : Nat} (hs : ∀ b, b ≠ g → w'.heap[b]? = w.heap[b]?) (hg : ∀ b, v.ownBlock = some b → b ≠ g) : OwnCoefs w' B T v cs := OwnK.stay h fun b hb => hs b (hg b hb)
end Vic
namespace Go.Proofs.YthephiihcgibjaaGreatDoor
open Go.RowKit Vic

set_option maxRecDepth 100000 in
set_option maxHeartbeats 16000000 in
theorem law_VecOwn (w : World) (ht : Tab w) (va vb vc vd : Value) (xs ys : List Int) (us vs : List (List UInt8)) (ha : IntsArg w va xs) (hb : IntsArg w vb ys) (hc : StrsArg w vc us) (hd : StrsArg w vd vs)
    (hxs : xs.length ≤ 9223372036854775807) (hys : ys.length ≤ 9223372036854775807) (hus : us.length ≤ 9223372036854775807) (hvs : vs.length ≤ 9223372036854775807)
    (hxb : ∀ x ∈ xs, -9223372036854775808 ≤ x ∧ x ≤ 9223372036854775807) (hyb : ∀ x ∈ ys, -9223372036854775808 ≤ x ∧ x ≤ 9223372036854775807) (hub : ∀ y ∈ us, y.length ≤ 9223372036854775807) (hvb : ∀ y ∈ vs, y.length ≤ 9223372036854775807) :
    Calls Tryz.prog 4 #[va, vb, vc, vd] w (Keeps (.bool true) w) := by
  have CB := Lib.hid (law_begun w ht)
  have HT := Lib.hid ht
  have CC1 : Hid (∀ W, Below w.heap.size w W → Calls Tryz.prog 19 #[va, vc] W (CoefsMade 47 W)) := Lib.hid fun W h => law_coefs W va vc xs us (ha.keep h) (hc.keep h) hxs hus hxb hub
  have CC2 : Hid (∀ W, Below w.heap.size w W → Calls Tryz.prog 19 #[vb, vd] W (CoefsMade 47 W)) := Lib.hid fun W h => law_coefs W vb vd ys vs (hb.keep h) (hd.keep h) hys hvs hyb hvb
  obtain ⟨A1, n1, q1, rfl⟩ : ∃ A n c, va = .slice A n c := by obtain ⟨A, c, h, _⟩ := ha; exact ⟨_, _, _, h⟩
  obtain ⟨A2, n2, q2, rfl⟩ : ∃ A n c, vb = .slice A n c := by obtain ⟨A, c, h, _⟩ := hb; exact ⟨_, _, _, h⟩
  obtain ⟨A3, n3, q3, rfl⟩ : ∃ A n c, vc = .slice A n c := by obtain ⟨A, c, h, _⟩ := hc; exact ⟨_, _, _, h⟩
  obtain ⟨A4, n4, q4, rfl⟩ : ∃ A n c, vd = .slice A n c := by obtain ⟨A, c, h, _⟩ := hd; exact ⟨_, _, _, h⟩
  clear ha hb hc hd hxs hys hus hvs hxb hyb hub hvb ht
  have hsz : (Tryz.prog.info? 47).map (·.size) = some 2 := by kernel_rfl
  go_enter Tryz.func4, Tryz.ntmps4
  go_wp2_with fail
  refine CB.out.mono ?_
  rintro e w1 ⟨rfl, hb1⟩
  clear CB
  go_wp2_with fail
  refine (CC1.out _ hb1).mono ?_
  rintro e w2 ⟨sl, cl, rfl, hok1, hl1, ht1, hown1, hb2⟩
  have B2 := below_seq hb1 hb2
  have CN1 : Hid (∀ W, Below w2.heap.size w2 W → Calls Tryz.prog 20 #[sl] W (VecGot cl W)) := Lib.hid fun W h => vec_New W sl cl (hown1.keep h).in_ (by omega) (fun x hx => by have := ht1 x hx; omega) (HT.out.keep (below_seq B2 h))
  obtain ⟨Al, ql, hsl⟩ := hown1.shape
  subst hsl
  have HOK1 := Lib.hid hok1; have HOWN1 := Lib.hid hown1
  clear CC1 hb2 hok1 hown1 ht1
  go_wp2_with fail
  refine (CN1.out _ (Below.refl _ _)).mono ?_
  rintro e w3 (⟨hno, _⟩ | ⟨_, xa, pa, rfl, hva, hpa, hra, hfa, hb3⟩)
  · exact absurd HOK1.out.good hno
  have B3 := below_seq B2 hb3
  have HVA := Lib.hid hva; have HFA := Lib.hid (parts_fits HOK1.out hpa); have hla := parts_len hpa
  obtain ⟨ba, hxa⟩ : ∃ b, xa = .pointer (some ⟨b, 0, none⟩) := by obtain ⟨b, _, _, h, _⟩ := hva; exact ⟨b, h⟩
  subst hxa
  clear CN1 hva hpa hra hfa
  go_wp2_with fail
  refine (CC2.out _ B3).mono ?_
  rintro e w4 ⟨s2, c2, rfl, hok2, hl2, ht2, hown2, hb4⟩
  have B4 := below_seq B3 hb4
  have CN2 := Lib.hid (vec_New w4 s2 c2 hown2.in_ (by omega) (fun x hx => by have := ht2 x hx; omega) (HT.out.keep B4))
  obtain ⟨Am, qm, hsm⟩ := hown2.shape
  subst hsm
  have HOK2 := Lib.hid hok2
  clear CC2 hok2 hown2 ht2
  go_wp2_with fail
  refine CN2.out.mono ?_
  rintro e w5 (⟨hno, _⟩ | ⟨_, xb, pb, rfl, hvb, hpb, hrb, hfb, hb5⟩)
  · exact absurd HOK2.out.good hno
  have B5 := below_seq B4 hb5
  have HVB := Lib.hid hvb; have HFB := Lib.hid (parts_fits HOK2.out hpb); have hlb := parts_len hpb
  obtain ⟨bb, hxb⟩ : ∃ b, xb = .pointer (some ⟨b, 0, none⟩) := by obtain ⟨b, _, _, h, _⟩ := hvb; exact ⟨b, h⟩
  subst hxb
  have HVA5 := Lib.hid (HVA.out.keep (below_seq hb4 hb5))
  have CW := Lib.hid (vec_Coefs w5 _ pa (.inr HVA5.out) (by omega) (fun p hp => (HFA.out p hp).mono (by omega)) (HT.out.keep B5))
  clear CN2 hvb hpb hrb hfb
  go_wp2_with fail
  refine CW.out.mono ?_
  rintro e w6 ⟨sw, rfl, hownw, hb6⟩
  have B6 := below_seq B5 hb6
  have HWAS6 := Lib.hid hownw
  obtain ⟨Aw, qw, hsw⟩ := hownw.shape
  obtain ⟨NC, hNC⟩ : ∃ NC, NC = (coefsOf pa).length := ⟨_, rfl⟩
  have hNC10 : NC ≤ 10 := by rw [hNC]; simp only [coefsOf, List.length_map]; omega
  rw [← hNC] at hsw
  subst hsw
  have C3 := Lib.hid (frac_Of w6 3 (by omega) (by omega))
  clear CW hownw
  go_wp2_with fail
  refine C3.out.mono ?_
  rintro e w7 ⟨x7, rfl, hx7, hb7⟩
  have CA := Lib.hid (vec_Add w7 _ _ pa pb x7 _ (.inr (HVA5.out.keep (below_seq hb6 hb7))) (.inr (HVB.out.keep (below_seq hb6 hb7))) hx7.at_ (by omega) (by omega) (fun p hp => (HFA.out p hp).mono (by omega)) (fun p hp => (HFB.out p hp).mono (by omega)) ((fits_of (n := 3) (by omega) (by omega)).mono (by omega)))
  obtain ⟨p7, hp7⟩ : ∃ p7, x7 = .pointer p7 := by obtain ⟨b, _, _, h, _⟩ := hx7; exact ⟨_, h⟩
  subst hp7
  clear C3 hx7
  go_wp2_with fail
  refine CA.out.mono ?_
  rintro e w8 ⟨x8, rfl, _, _, hb8⟩
  have B8 := below_seq B6 (below_seq hb7 hb8)
  obtain ⟨gl, hgl⟩ : ∃ gl, cl.length ≠ 0 → (Al = some ⟨gl, 0, none⟩ ∧ cl.length ≤ ql ∧ w1.heap.size ≤ gl ∧ gl < w2.heap.size ∧ CBlock w2 gl cl.length 47) := by
    rcases HOWN1.out.block with ⟨_, h⟩ | ⟨g, c, h, h1, h2, h3, h4⟩
    · exact ⟨0, fun hn => absurd (by rw [h]; rfl) hn⟩
    · injection h with e1 _ e3
      subst e3
      exact ⟨g, fun _ => ⟨e1, h3, h1, h2, h4⟩⟩
  have h28 : Below w2.heap.size w2 w8 := below_seq hb3 (below_seq hb4 (below_seq hb5 (below_seq hb6 (below_seq hb7 hb8))))
  have h25 : w2.heap.size ≤ w5.heap.size := Nat.le_trans hb3.size (Nat.le_trans hb4.size hb5.size)
  have HVA8 := Lib.hid (HVA5.out.keep (below_seq hb6 (below_seq hb7 hb8)))
  have HWAS8 := Lib.hid (HWAS6.out.keep (below_seq hb7 hb8))
  have HGL := Lib.hid hgl
  have HCB8 : Hid (cl.length ≠ 0 → CBlock w8 gl cl.length 47) := Lib.hid fun h => (hgl h).2.2.2.2.keep h28
  have HW1 : Hid (w.heap.size ≤ w1.heap.size) := Lib.hid hb1.size
  have HW25 := Lib.hid h25
  clear hgl h28 h25 hb1 hb3 hb4 hb5 hb6 hb7 hb8 CA HVA HVA5 HVB HWAS6 HOWN1 B2 B3 B4 B5 B6
  go_wp2_with fail
  go_loopw [47] (fun t wr => ∃ k : Nat, t = .int .i64 k ∧ k ≤ cl.length ∧ Hid (VecPtr wr (.pointer (some ⟨ba, 0, none⟩)) pa) ∧ Hid (OwnCoefs wr w5.heap.size 47 (.slice Aw NC qw) (coefsOf pa)) ∧ Hid (cl.length ≠ 0 → CBlock wr gl cl.length 47) ∧ Below w.heap.size w wr) (fun t _ => cl.length - (intOf t).toNat)
  case atStart => exact ⟨0, rfl, Nat.zero_le _, HVA8, HWAS8, HCB8, B8⟩
  case round =>
    clear HVA8 HWAS8 HCB8 B8
    obtain ⟨k, rfl, hk, hv, hw, hcb, hbr⟩ := hrel
    by_cases hlt : k < cl.length
    · obtain ⟨e1, hlq, hg1, hg2, _⟩ := HGL.out (by omega)
      subst e1
      have hblk := hcb.out (by omega)
      obtain ⟨⟨u9, q9⟩, f9⟩ := hblk.at_ (j := k * 2 + 1) (by omega)
      have HBLK := Lib.hid hblk
      have hlt' := Int.ofNat_lt.2 hlt
      clear hblk
      go_wp2_with fail
      go_roundw
      case rel =>
        have hs : ∀ b, b ≠ gl → (wr.setCell ⟨gl, k * 2 + 1, none⟩ (.string ⟨#[57]⟩)).heap[b]? = wr.heap[b]? := fun b hb => Below.heap_setCell wr ⟨gl, k * 2 + 1, none⟩ _ b hb
        refine ⟨k + 1, by go_num, by omega, Lib.hid (hv.out.offk HBLK.out.kinds hs), Lib.hid (hw.out.only hs (fun b hb => ?_)), Lib.hid (fun _ => HBLK.out.set _ (.inr ⟨_, rfl⟩)), ?_⟩
        · have h1 := (OwnK.lt hw.out hb).1
          have h2 := HW25.out
          omega
        · exact hbr.trans (((Only.refl gl wr).setCell _ _).below (Nat.le_trans HW1.out hg1))
      case measure => simp [intOf]; omega
    · obtain rfl : k = cl.length := by omega
      have CX := Lib.hid (vec_Coefs wr _ pa (.inr hv.out) (by omega) (fun p hp => (HFA.out p hp).mono (by omega)) (HT.out.keep hbr))
      clear hlt hcb
      go_wp2_with fail
      refine CX.out.mono ?_
      rintro e w10 ⟨sx, rfl, hownx, hb10⟩
      have B10 := below_seq hbr hb10
      obtain ⟨Ax, qx, hsx⟩ := hownx.shape
      rw [← hNC] at hsx
      subst hsx
      obtain ⟨gx, hgx⟩ : ∃ gx, NC ≠ 0 → (Ax = some ⟨gx, 0, none⟩ ∧ NC ≤ qx ∧ wr.heap.size ≤ gx ∧ CBlock w10 gx NC 47) := by
        rcases hownx.block with ⟨_, h⟩ | ⟨g, c, h, h1, h2, h3, h4⟩
        · exact ⟨0, fun hn => absurd (by rw [hNC, h]; rfl) hn⟩
        · injection h with e1 _ e3
          subst e3
          rw [← hNC] at h3 h4
          exact ⟨g, fun _ => ⟨e1, h3, h1, h4⟩⟩
      have HGX := Lib.hid hgx
      have HVA10 := Lib.hid (hv.out.keep hb10)
      have HWAS10 := Lib.hid (hw.out.keep hb10)
      have HCB10 : Hid (NC ≠ 0 → CBlock w10 gx NC 47) := Lib.hid fun h => (hgx h).2.2.2
      have HWR : Hid (w.heap.size ≤ wr.heap.size) := Lib.hid hbr.size
      have HWLT : Hid (∀ b, (Value.slice Aw NC qw).ownBlock = some b → b < wr.heap.size) := Lib.hid fun b hb => (OwnK.lt hw.out hb).2
      clear hgx hownx CX hv hw hbr hb10
      go_wp2_with fail
      go_loopw [59] (fun t wx => ∃ k : Nat, t = .int .i64 k ∧ k ≤ NC ∧ Hid (VecPtr wx (.pointer (some ⟨ba, 0, none⟩)) pa) ∧ Hid (OwnCoefs wx w5.heap.size 47 (.slice Aw NC qw) (coefsOf pa)) ∧ Hid (NC ≠ 0 → CBlock wx gx NC 47) ∧ Below w.heap.size w wx) (fun t _ => NC - (intOf t).toNat)
      case atStart => exact ⟨0, rfl, Nat.zero_le _, HVA10, HWAS10, HCB10, B10⟩
      case round =>
        clear HVA10 HWAS10 HCB10 B10
        obtain ⟨k, rfl, hk, hv, hw, hcb, hbr⟩ := hrel
        by_cases hlt : k < NC
        · obtain ⟨e1, hlq, hg1, _⟩ := HGX.out (by omega)
          subst e1
          have hblk := hcb.out (by omega)
          obtain ⟨⟨u8, q8⟩, f8⟩ := hblk.at_ (j := k * 2) (by omega)
          obtain ⟨⟨u9, q9⟩, f9⟩ := hblk.at_ (j := k * 2 + 1) (by omega)
          have HBLK := Lib.hid hblk
          have hlt' := Int.ofNat_lt.2 hlt
          clear hblk
          go_wp2_with fail
          go_roundw
          case rel =>
            have hs : ∀ b, b ≠ gx → ((wr.setCell ⟨gx, k * 2, none⟩ (.int .i64 77)).setCell ⟨gx, k * 2 + 1, none⟩ (.string ⟨#[55]⟩)).heap[b]? = wr.heap[b]? := fun b hb => (Below.heap_setCell _ ⟨gx, k * 2 + 1, none⟩ _ b hb).trans (Below.heap_setCell wr ⟨gx, k * 2, none⟩ _ b hb)
            refine ⟨k + 1, by go_num, by omega, Lib.hid (hv.out.offk HBLK.out.kinds hs), Lib.hid (hw.out.only hs (fun b hb => ?_)), Lib.hid (fun _ => (HBLK.out.set _ (.inl ⟨_, rfl⟩)).set _ (.inr ⟨_, rfl⟩)), ?_⟩
            · have h1 := HWLT.out b hb
              omega
            · exact hbr.trans ((((Only.refl gx wr).setCell _ _).setCell _ _).below (Nat.le_trans HWR.out hg1))
          case measure => simp [intOf]; omega
        · obtain rfl : k = NC := by omega
          have CY := Lib.hid (vec_Coefs wr _ pa (.inr hv.out) (by omega) (fun p hp => (HFA.out p hp).mono (by omega)) (HT.out.keep hbr))
          clear hlt hcb hv
          go_wp2_with fail
          refine CY.out.mono ?_
          rintro e w12 ⟨sy, rfl, howny, hb12⟩
          have B12 := below_seq hbr hb12
          obtain ⟨Ay, qy, hsy⟩ := howny.shape
          rw [← hNC] at hsy
          subst hsy
          have HWAS12 := Lib.hid (hw.out.keep hb12)
          have HY12 := Lib.hid howny
          clear howny CY hw hbr hb12
          go_wp2_with fail
          go_loopw [76] (fun t wx => ∃ j : Nat, t = .int .i64 j ∧ j ≤ k ∧ Below w12.heap.size w12 wx) (fun t _ => k - (intOf t).toNat)
          case atStart => exact ⟨0, rfl, Nat.zero_le _, Below.refl _ _⟩
          case round =>
            obtain ⟨j, rfl, hj, hbr⟩ := hrel
            by_cases hlt : j < k
            · obtain ⟨x, hx⟩ : ∃ x, (coefsOf pa)[j]? = some x := ⟨_, List.getElem?_eq_getElem (by rw [← hNC]; exact hlt)⟩
              rcases HWAS12.out.shape2 with ⟨_, h⟩ | ⟨g5, c5, e5, h5, hc5, _⟩
              · rw [h] at hx; simp at hx
              · rcases HY12.out.shape2 with ⟨_, h⟩ | ⟨g6, c6, e6, h6, hc6, _⟩
                · rw [h] at hx; simp at hx
                · injection e5 with e5 _ _
                  injection e6 with e6 _ _
                  subst e5
                  subst e6
                  obtain ⟨a1, a2⟩ := hc5 j x hx
                  obtain ⟨a3, a4⟩ := hc6 j x hx
                  have a1' := cell_keep a1 hbr
                  have a2' := cell_keep a2 hbr
                  have a3' := cell_keep a3 hbr
                  have a4' := cell_keep a4 hbr
                  have hlt' := Int.ofNat_lt.2 hlt
                  obtain ⟨xc, xt⟩ := x
                  simp only at a1' a2' a3' a4'
                  clear hc5 hc6 a1 a2 a3 a4 hx
                  go_wp2_with fail
                  go_quiet (fail)
                  go_wp2_with fail
                  go_roundw
                  case rel => exact ⟨j + 1, by go_num, by omega, Below.drewN_ hbr _⟩
                  case measure => simp [intOf]; omega
            · obtain rfl : j = k := by omega
              go_wp2_with fail
              go_ret
              exact ⟨rfl, below_seq B12 hbr⟩
end Go.Proofs.YthephiihcgibjaaGreatDoor
