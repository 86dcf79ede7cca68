/- The law VecLaws: products of vectors go with sums; a vector less itself is nothing. -/
import Derived.Test.YthephiihcgibjaaGreatDoorJLawVecOwn
import Derived.Test.YthephiihcgibjaaGreatDoorJLitD
set_option linter.unusedVariables false
set_option linter.unusedSimpArgs false
namespace Vic
open Go Go.RowKit
theorem dotGo_fits {L : Nat} (hL : 2 ≤ L) {qs : PL} (hq : ∀ p ∈ qs, Fits L p.2) : ∀ (ps : PL) (s : Rat) (n : Nat), (∀ p ∈ ps, Fits L p.2) → Fits n s → Fits (n + ps.length * (2 * L + 1)) (dotGo qs s ps)
  | [], s, n, _, hs => by simpa [dotGo] using hs
  | p :: ps, s, n, hp, hs => by
    have h1 : Fits (L + L) (p.2 * atOf qs p.1) := fits_mul (hp p List.mem_cons_self) (atOf_fits hL hq p.1)
    have h2 : Fits (n + (2 * L + 1)) (s + p.2 * atOf qs p.1) := (fits_add hs h1).mono (by omega)
    have h3 := dotGo_fits hL hq ps _ _ (fun x hx => hp x (List.mem_cons_of_mem _ hx)) h2
    exact h3.mono (by rw [List.length_cons, Nat.add_mul]; omega)
theorem dot_fits {L : Nat} (hL : 2 ≤ L) {ps qs : PL} (hp : ∀ p ∈ ps, Fits L p.2) (hq : ∀ p ∈ qs, Fits L p.2) : Fits (2 + ps.length * (2 * L + 1)) (dotV ps qs) :=
  dotGo_fits hL hq ps 0 2 hp (fits_of (n := 0) (by omega) (by omega))
end Vic
namespace Go.Proofs.YthephiihcgibjaaGreatDoor
open Go.RowKit Vic

set_option maxRecDepth 100000 in
set_option maxHeartbeats 4000000 in
theorem law_F (w : World) (ht : Tab w) (s : List UInt8) (hs : s.length ≤ 1000000) : Calls Tryz.prog 27 #[.string ⟨s.toArray⟩] w (fun e w' => ∃ x q, e = .returned x ∧ FracPtr w' x q ∧ Fits 2000 q ∧ Below w.heap.size w w') := by
  have CG := Lib.hid (frac_Get w s hs ht)
  unfold GotFrac at CG
  have CO : Hid (∀ W, Calls Tryz.prog 23 #[.int .i64 0] W (Gives (fun x w' => FracPtr w' x ((0 : Int) : Rat)) W)) := Lib.hid fun W => frac_Of W 0 (by omega) (by omega)
  go_enter Tryz.func27, Tryz.ntmps27
  go_wp2_with fail
  refine CG.out.mono ?_
  rintro e w1 (⟨hno, rfl, hb1⟩ | ⟨hg, x, rfl, hx, hf, hb1⟩)
  · go_wp2_with fail
    refine (CO.out _).mono ?_
    rintro e w2 ⟨x, rfl, hx, hb2⟩
    go_wp2_with fail
    go_ret
    exact ⟨_, _, rfl, hx, (fits_of (n := 0) (by omega) (by omega)).mono (by omega), below_seq hb1 hb2⟩
  · obtain ⟨b, hxb⟩ : ∃ b, x = .pointer b := by obtain ⟨b, _, _, h, _⟩ := hx; exact ⟨_, h⟩
    subst hxb
    have HX := Lib.hid hx
    clear hx
    go_wp2_with fail
    go_ret
    exact ⟨_, _, rfl, HX.out, good_fits hg, hb1⟩

set_option maxRecDepth 100000 in
set_option maxHeartbeats 16000000 in
theorem law_VecLaws (w : World) (ht : Tab w) (va vb vc vd ve vf : Value) (l : List UInt8) (xs ys zs : List Int) (us vs ws : List (List UInt8)) (ha : IntsArg w va xs) (hb : IntsArg w vb ys) (hc : IntsArg w vc zs) (hd : StrsArg w vd us) (he : StrsArg w ve vs) (hf : StrsArg w vf ws)
    (hxs : xs.length ≤ 9223372036854775807) (hys : ys.length ≤ 9223372036854775807) (hzs : zs.length ≤ 9223372036854775807) (hus : us.length ≤ 9223372036854775807) (hvs : vs.length ≤ 9223372036854775807) (hws : ws.length ≤ 9223372036854775807)
    (hxb : ∀ x ∈ xs, -9223372036854775808 ≤ x ∧ x ≤ 9223372036854775807) (hyb : ∀ x ∈ ys, -9223372036854775808 ≤ x ∧ x ≤ 9223372036854775807) (hzb : ∀ x ∈ zs, -9223372036854775808 ≤ x ∧ x ≤ 9223372036854775807)
    (hub : ∀ y ∈ us, y.length ≤ 9223372036854775807) (hvb : ∀ y ∈ vs, y.length ≤ 9223372036854775807) (hwb : ∀ y ∈ ws, y.length ≤ 9223372036854775807) (hl : l.length ≤ 9223372036854775807) :
    Calls Tryz.prog 7 #[va, vb, vc, vd, ve, vf, .string ⟨l.toArray⟩] w (Keeps (.bool true) w) := by
  have CB := Lib.hid (law_begun w ht)
  have HT := Lib.hid ht
  have MK : Hid (∀ (p q : Value) (is : List Int) (ss : List (List UInt8)), IntsArg w p is → StrsArg w q ss → is.length ≤ 9223372036854775807 → ss.length ≤ 9223372036854775807 → (∀ x ∈ is, -9223372036854775808 ≤ x ∧ x ≤ 9223372036854775807) → (∀ y ∈ ss, y.length ≤ 9223372036854775807) → ∀ W, Below w.heap.size w W → Calls Tryz.prog 19 #[p, q] W (CoefsMade 47 W)) := Lib.hid fun p q is ss h1 h2 h3 h4 h5 h6 W h => law_coefs W p q is ss (h1.keep h) (h2.keep h) h3 h4 h5 h6
  have CC1 := Lib.hid (MK.out va vd xs us ha hd hxs hus hxb hub)
  have CC2 := Lib.hid (MK.out vb ve ys vs hb he hys hvs hyb hvb)
  have CC3 := Lib.hid (MK.out vc vf zs ws hc hf hzs hws hzb hwb)
  have CN : Hid (∀ W sv B cs, Below w.heap.size w W → OwnCoefs W B 47 sv cs → cs.length ≤ 10 → (∀ x ∈ cs, x.2.length ≤ 20000) → CoefsOk cs → Calls Tryz.prog 20 #[sv] W (fun e w' => ∃ b ps, e = .returned (.tuple #[.pointer (some ⟨b, 0, none⟩), .bool true]) ∧ VecPtr w' (.pointer (some ⟨b, 0, none⟩)) ps ∧ ps.length ≤ 10 ∧ Rising ps ∧ (∀ p ∈ ps, Fits 2000 p.2) ∧ Below W.heap.size W w')) := Lib.hid fun W sv B cs h ho h1 h2 h3 => by
    refine (vec_New W sv cs ho.in_ (by omega) (fun x hx => by have := h2 x hx; omega) (HT.out.keep h)).mono ?_
    rintro e w' (⟨hno, _⟩ | ⟨_, x, ps, rfl, hv, hp, hr, _, hb⟩)
    · exact absurd h3.good hno
    · obtain ⟨b, hx⟩ : ∃ b, x = .pointer (some ⟨b, 0, none⟩) := by obtain ⟨b, _, _, h, _⟩ := hv; exact ⟨b, h⟩
      subst hx
      have h4 := parts_len hp
      exact ⟨b, ps, rfl, hv, by omega, hr, parts_fits h3 hp, hb⟩
  have CT : Hid (∀ W, Calls Tryz.prog 26 #[.string ⟨l.toArray⟩, .int .i64 20] W (Keeps (.string ⟨(l.take 20).toArray⟩) W)) := Lib.hid fun W => law_Text W l 20 hl (by omega)
  have CF : Hid (∀ W, Below w.heap.size w W → Calls Tryz.prog 27 #[.string ⟨(l.take 20).toArray⟩] W (fun e w' => ∃ x q, e = .returned x ∧ FracPtr w' x q ∧ Fits 2000 q ∧ Below W.heap.size W w')) := Lib.hid fun W h => law_F W (HT.out.keep h) _ (by rw [List.length_take]; omega)
  obtain ⟨A1, n1, q1, rfl⟩ : ∃ A n c, va = .slice A n c := by obtain ⟨A, c, h, _⟩ := ha; exact ⟨_, _, _, h⟩
  obtain ⟨A2, n2, q2, rfl⟩ : ∃ A n c, vb = .slice A n c := by obtain ⟨A, c, h, _⟩ := hb; exact ⟨_, _, _, h⟩
  obtain ⟨A3, n3, q3, rfl⟩ : ∃ A n c, vc = .slice A n c := by obtain ⟨A, c, h, _⟩ := hc; exact ⟨_, _, _, h⟩
  obtain ⟨A4, n4, q4, rfl⟩ : ∃ A n c, vd = .slice A n c := by obtain ⟨A, c, h, _⟩ := hd; exact ⟨_, _, _, h⟩
  obtain ⟨A5, n5, q5, rfl⟩ : ∃ A n c, ve = .slice A n c := by obtain ⟨A, c, h, _⟩ := he; exact ⟨_, _, _, h⟩
  obtain ⟨A6, n6, q6, rfl⟩ : ∃ A n c, vf = .slice A n c := by obtain ⟨A, c, h, _⟩ := hf; exact ⟨_, _, _, h⟩
  clear ha hb hc hd he hf hxs hys hzs hus hvs hws hxb hyb hzb hub hvb hwb hl ht MK
  go_enter Tryz.func7, Tryz.ntmps7
  go_wp2_with fail
  refine CB.out.mono ?_
  rintro e w1 ⟨rfl, hb1⟩
  clear CB
  go_wp2_with fail
  refine (CC1.out _ hb1).mono ?_
  rintro e w2 ⟨sa, ca, rfl, hoka, hla, hta, howna, hb2⟩
  have B2 := below_seq hb1 hb2
  have Na := Lib.hid (CN.out _ _ _ _ B2 howna hla hta hoka)
  obtain ⟨Aa, qa, hsa⟩ := howna.shape
  subst hsa
  clear CC1 hoka hta howna
  go_wp2_with fail
  refine Na.out.mono ?_
  rintro e w3 ⟨ba, pa, rfl, hva, hpa, hra, hfa, hb3⟩
  have B3 := below_seq B2 hb3
  have Va := Lib.hid hva; have Fa := Lib.hid hfa; have Ra := Lib.hid hra
  clear Na hva hfa hra
  go_wp2_with fail
  refine (CC2.out _ B3).mono ?_
  rintro e w4 ⟨sb, cb, rfl, hokb, hlb, htb, hownb, hb4⟩
  have B4 := below_seq B3 hb4
  have Nb := Lib.hid (CN.out _ _ _ _ B4 hownb hlb htb hokb)
  obtain ⟨Ab, qb, hsb⟩ := hownb.shape
  subst hsb
  clear CC2 hokb htb hownb
  go_wp2_with fail
  refine Nb.out.mono ?_
  rintro e w5 ⟨bb, pb, rfl, hvb, hpb, hrb, hfb, hb5⟩
  have B5 := below_seq B4 hb5
  have Vb := Lib.hid hvb; have Fb := Lib.hid hfb; have Rb := Lib.hid hrb
  replace Va := Lib.hid (Va.out.keep (below_seq hb4 hb5))
  clear Nb hvb hfb hrb
  go_wp2_with fail
  refine (CC3.out _ B5).mono ?_
  rintro e w6 ⟨sc, cc, rfl, hokc, hlc, htc, hownc, hb6⟩
  have B6 := below_seq B5 hb6
  have Nc := Lib.hid (CN.out _ _ _ _ B6 hownc hlc htc hokc)
  obtain ⟨Ac, qc, hsc⟩ := hownc.shape
  subst hsc
  clear CC3 hokc htc hownc
  go_wp2_with fail
  refine Nc.out.mono ?_
  rintro e w7 ⟨bc, pc, rfl, hvc, hpc, hrc, hfc, hb7⟩
  have B7 := below_seq B6 hb7
  have Vc := Lib.hid hvc; have Fc := Lib.hid hfc; have Rc := Lib.hid hrc
  replace Va := Lib.hid (Va.out.keep (below_seq hb6 hb7))
  replace Vb := Lib.hid (Vb.out.keep (below_seq hb6 hb7))
  clear Nc hvc hfc hrc
  go_wp2_with fail
  refine (CT.out _).mono ?_
  rintro e w8 ⟨rfl, hb8⟩
  have B8 := below_seq B7 hb8
  go_wp2_with fail
  refine (CF.out _ B8).mono ?_
  rintro e w9 ⟨xf, f, rfl, hxf, hff, hb9⟩
  have B9 := below_seq B8 hb9
  obtain ⟨bf, hxe⟩ : ∃ b, xf = .pointer b := by obtain ⟨b, _, _, h, _⟩ := hxf; exact ⟨_, h⟩
  subst hxe
  have XF := Lib.hid hxf; have FF := Lib.hid hff
  have KA : Hid (∀ W, Below w9.heap.size w9 W → VecPtr W (.pointer (some ⟨ba, 0, none⟩)) pa) := Lib.hid fun W h => Va.out.keep (below_seq (below_seq hb8 hb9) h)
  have KB : Hid (∀ W, Below w9.heap.size w9 W → VecPtr W (.pointer (some ⟨bb, 0, none⟩)) pb) := Lib.hid fun W h => Vb.out.keep (below_seq (below_seq hb8 hb9) h)
  have KC : Hid (∀ W, Below w9.heap.size w9 W → VecPtr W (.pointer (some ⟨bc, 0, none⟩)) pc) := Lib.hid fun W h => Vc.out.keep (below_seq (below_seq hb8 hb9) h)
  have KF : Hid (∀ W, Below w9.heap.size w9 W → FracPtr W (.pointer bf) f) := Lib.hid fun W h => XF.out.keep h
  have KW : Hid (∀ W, Below w9.heap.size w9 W → Below w.heap.size w W) := Lib.hid fun W h => below_seq B9 h
  have CAB : Hid (∀ W, Below w9.heap.size w9 W → Calls Tryz.prog 22 #[.pointer (some ⟨ba, 0, none⟩), .pointer bf, .pointer (some ⟨bb, 0, none⟩)] W (AddGot f pa pb W)) := Lib.hid fun W h => vec_Add W _ _ pa pb _ f (.inr (KA.out W h)) (.inr (KB.out W h)) (KF.out W h).at_ (by omega) (by omega) (fun p hp => (Fa.out p hp).mono (by omega)) (fun p hp => (Fb.out p hp).mono (by omega)) (FF.out.mono (by omega))
  have CA0 : Hid (∀ W, Below w9.heap.size w9 W → Calls Tryz.prog 22 #[.pointer (some ⟨ba, 0, none⟩), .pointer none, .pointer (some ⟨bb, 0, none⟩)] W (AddGot 0 pa pb W)) := Lib.hid fun W h => vec_Add W _ _ pa pb _ 0 (.inr (KA.out W h)) (.inr (KB.out W h)) (.inl ⟨rfl, rfl⟩) (by omega) (by omega) (fun p hp => (Fa.out p hp).mono (by omega)) (fun p hp => (Fb.out p hp).mono (by omega)) ((fits_of (n := 0) (by omega) (by omega)).mono (by omega))
  have CAA : Hid (∀ W z, Below w9.heap.size w9 W → FracPtr W z ((-1 : Int) : Rat) → Calls Tryz.prog 22 #[.pointer (some ⟨ba, 0, none⟩), z, .pointer (some ⟨ba, 0, none⟩)] W (AddGot ((-1 : Int) : Rat) pa pa W)) := Lib.hid fun W z h hz => vec_Add W _ _ pa pa _ _ (.inr (KA.out W h)) (.inr (KA.out W h)) hz.at_ (by omega) (by omega) (fun p hp => (Fa.out p hp).mono (by omega)) (fun p hp => (Fa.out p hp).mono (by omega)) ((fits_of (n := -1) (by omega) (by omega)).mono (by omega))
  have CDC : Hid (∀ W v ps, Below w9.heap.size w9 W → VecPtr W v ps → ps.length ≤ 20 → (∀ p ∈ ps, Fits 1000000 p.2) → Calls Tryz.prog 29 #[v, .pointer (some ⟨bc, 0, none⟩)] W (Gives (fun x w' => FracPtr w' x (dotV ps pc)) W)) := Lib.hid fun W v ps h hv hl hf => vec_Dot W _ _ ps pc 1000000 (.inr hv) (.inr (KC.out W h)) (by omega) (by omega) (by omega) (by omega) hf (fun p hp => (Fc.out p hp).mono (by omega))
  have hlab : (mergeV f pa pb).length ≤ 20 := Nat.le_trans (merge_len f pa pb) (by omega)
  have hla0 : (mergeV 0 pa pb).length ≤ 20 := Nat.le_trans (merge_len 0 pa pb) (by omega)
  have DAC : Hid (Fits 50000 (dotV pa pc)) := Lib.hid ((dot_fits (L := 2000) (by omega) Fa.out Fc.out).mono (by have := Nat.mul_le_mul_right (2 * 2000 + 1) hpa; omega))
  have DBC : Hid (Fits 50000 (dotV pb pc)) := Lib.hid ((dot_fits (L := 2000) (by omega) Fb.out Fc.out).mono (by have := Nat.mul_le_mul_right (2 * 2000 + 1) hpb; omega))
  have DFB : Hid (Fits 52000 (f * dotV pb pc)) := Lib.hid (fits_mul FF.out DBC.out |>.mono (by omega))
  have DSUM : Hid (Fits 102001 (dotV pa pc + f * dotV pb pc)) := Lib.hid (fits_add DAC.out DFB.out |>.mono (by omega))
  clear Va Vb Vc XF hxf hff hb8 hb9 B7 B8 CF CT CN
  go_wp2_with fail
  go_at_call 22
  refine (CAB.out w9 (Below.refl _ _)).mono ?_
  rintro e w10 ⟨x10, rfl, hv10, hf10, hb10⟩
  obtain ⟨bx10, ex10⟩ : ∃ b, x10 = .pointer b := by obtain ⟨b, _, _, h, _⟩ := hv10; exact ⟨_, h⟩
  subst ex10
  go_wp2_with fail
  go_at_call 29
  refine (CDC.out _ _ _ hb10 hv10 hlab hf10).mono ?_
  rintro e w11 ⟨x11, rfl, hx11, hb11⟩
  obtain ⟨bx11, ex11⟩ : ∃ b, x11 = .pointer b := by obtain ⟨b, _, _, h, _⟩ := hx11; exact ⟨_, h⟩
  subst ex11
  have z11 := below_seq hb10 hb11
  have H11 := Lib.hid hx11
  clear hx11 hv10 hf10
  go_wp2_with fail
  go_at_call 29
  refine (CDC.out _ _ _ z11 (KA.out _ z11) (by omega) (fun p hp => (Fa.out p hp).mono (by omega))).mono ?_
  rintro e w12 ⟨x12, rfl, hx12, hb12⟩
  obtain ⟨bx12, ex12⟩ : ∃ b, x12 = .pointer b := by obtain ⟨b, _, _, h, _⟩ := hx12; exact ⟨_, h⟩
  subst ex12
  have z12 := below_seq z11 hb12
  have H12 := Lib.hid hx12
  clear hx12
  go_wp2_with fail
  go_at_call 29
  refine (CDC.out _ _ _ z12 (KB.out _ z12) (by omega) (fun p hp => (Fb.out p hp).mono (by omega))).mono ?_
  rintro e w13 ⟨x13, rfl, hx13, hb13⟩
  obtain ⟨bx13, ex13⟩ : ∃ b, x13 = .pointer b := by obtain ⟨b, _, _, h, _⟩ := hx13; exact ⟨_, h⟩
  subst ex13
  have z13 := below_seq z12 hb13
  go_wp2_with fail
  go_at_call 40
  refine (frac_Mul w13 _ _ f _ (KF.out _ z13).at_ hx13.at_ (FF.out.mono (by omega)) (DBC.out.mono (by omega))).mono ?_
  rintro e w14 ⟨x14, rfl, hx14, hb14⟩
  obtain ⟨bx14, ex14⟩ : ∃ b, x14 = .pointer b := by obtain ⟨b, _, _, h, _⟩ := hx14; exact ⟨_, h⟩
  subst ex14
  have z14 := below_seq z13 hb14
  clear hx13
  go_wp2_with fail
  go_at_call 39
  refine (frac_Add w14 _ _ _ _ (H12.out.keep (below_seq hb13 hb14)).at_ hx14.at_ (DAC.out.mono (by omega)) (DFB.out.mono (by omega))).mono ?_
  rintro e w15 ⟨x15, rfl, hx15, hb15⟩
  obtain ⟨bx15, ex15⟩ : ∃ b, x15 = .pointer b := by obtain ⟨b, _, _, h, _⟩ := hx15; exact ⟨_, h⟩
  subst ex15
  have z15 := below_seq z14 hb15
  rw [← dot_merge] at hx15
  clear hx14
  go_wp2_with fail
  go_at_call 30
  refine (frac_Cmp_same w15 _ _ _ (H11.out.keep (below_seq hb12 (below_seq hb13 (below_seq hb14 hb15)))).at_ hx15.at_ (by rw [dot_merge]; exact DSUM.out.mono (by omega))).mono ?_
  rintro e w16 ⟨rfl, hb16⟩
  have z16 := below_seq z15 hb16
  clear hx15 H11 H12 hb10 hb11 hb12 hb13 hb14 hb15 hb16 z11 z12 z13 z14 z15
  go_wp2_with fail
  go_at_call 23
  refine (frac_Of w16 (-1) (by omega) (by omega)).mono ?_
  rintro e w17 ⟨x17, rfl, hx17, hb17⟩
  obtain ⟨bx17, ex17⟩ : ∃ b, x17 = .pointer b := by obtain ⟨b, _, _, h, _⟩ := hx17; exact ⟨_, h⟩
  subst ex17
  have z17 := below_seq z16 hb17
  go_wp2_with fail
  go_at_call 22
  refine (CAA.out w17 _ z17 hx17).mono ?_
  rintro e w18 ⟨x18, rfl, hv18, hf18, hb18⟩
  obtain ⟨bx18, ex18⟩ : ∃ b, x18 = .pointer b := by obtain ⟨b, _, _, h, _⟩ := hv18; exact ⟨_, h⟩
  subst ex18
  have z18 := below_seq z17 hb18
  have hself : mergeV ((-1 : Int) : Rat) pa pa = [] := merge_self pa Ra.out
  rw [hself] at hv18
  clear hx17 hf18 hself
  go_wp2_with fail
  go_at_call 38
  refine (vec_Len w18 _ [] (.inr hv18)).mono ?_
  rintro e w19' ⟨rfl, rfl⟩
  clear hv18 hb17 hb18 z16 z17
  go_wp2_with fail
  go_at_call 22
  refine (CA0.out _ z18).mono ?_
  rintro e w20 ⟨x20, rfl, hv20, hf20, hb20⟩
  obtain ⟨bx20, ex20⟩ : ∃ b, x20 = .pointer b := by obtain ⟨b, _, _, h, _⟩ := hv20; exact ⟨_, h⟩
  subst ex20
  have z20 := below_seq z18 hb20
  go_wp2_with fail
  go_at_call 29
  refine (CDC.out _ _ _ z20 hv20 hla0 hf20).mono ?_
  rintro e w21 ⟨x21, rfl, hx21, hb21⟩
  obtain ⟨bx21, ex21⟩ : ∃ b, x21 = .pointer b := by obtain ⟨b, _, _, h, _⟩ := hx21; exact ⟨_, h⟩
  subst ex21
  have z21 := below_seq z20 hb21
  have h0 : dotV (mergeV 0 pa pb) pc = dotV pa pc := by rw [dot_merge, Rat.zero_mul, Rat.add_zero]
  rw [h0] at hx21
  have H21 := Lib.hid hx21
  clear hx21 hv20 hf20 h0
  go_wp2_with fail
  go_at_call 29
  refine (CDC.out _ _ _ z21 (KA.out _ z21) (by omega) (fun p hp => (Fa.out p hp).mono (by omega))).mono ?_
  rintro e w22 ⟨x22, rfl, hx22, hb22⟩
  obtain ⟨bx22, ex22⟩ : ∃ b, x22 = .pointer b := by obtain ⟨b, _, _, h, _⟩ := hx22; exact ⟨_, h⟩
  subst ex22
  have z22 := below_seq z21 hb22
  go_wp2_with fail
  go_at_call 30
  refine (frac_Cmp_same w22 _ _ _ (H21.out.keep hb22).at_ hx22.at_ (DAC.out.mono (by omega))).mono ?_
  rintro e w23 ⟨rfl, hb23⟩
  have z23 := below_seq z22 hb23
  clear hx22 H21 hb20 hb21 hb22 hb23 z18 z20 z21 z22
  go_wp2_with fail
  go_at_call 22
  refine (CAB.out _ z23).mono ?_
  rintro e w24 ⟨x24, rfl, hv24, hf24, hb24⟩
  obtain ⟨bx24, ex24⟩ : ∃ b, x24 = .pointer b := by obtain ⟨b, _, _, h, _⟩ := hv24; exact ⟨_, h⟩
  subst ex24
  have z24 := below_seq z23 hb24
  go_wp2_with fail
  go_at_call 21
  refine (vec_Coefs w24 _ _ (.inr hv24) (by omega) hf24 (HT.out.keep (KW.out _ z24))).mono ?_
  rintro e w25 ⟨sv, rfl, hown25, hb25⟩
  have z25 := below_seq z24 hb25
  obtain ⟨As, qs, hsv⟩ := hown25.shape
  obtain ⟨NL, hNL⟩ : ∃ NL, NL = (coefsOf (mergeV f pa pb)).length := ⟨_, rfl⟩
  rw [← hNL] at hsv
  subst hsv
  have hNL2 : NL ≤ pa.length + pb.length := by rw [hNL]; simp only [coefsOf, List.length_map]; exact merge_len f pa pb
  have hNL3 : (NL : Int) ≤ (pa.length : Int) + (pb.length : Int) := by omega
  clear hv24 hf24 hown25 hNL
  go_wp2_with fail
  go_at_call 38
  refine (vec_Len w25 _ pa (.inr (KA.out _ z25))).mono ?_
  rintro e w26' ⟨rfl, rfl⟩
  go_wp2_with fail
  go_at_call 38
  refine (vec_Len w25 _ pb (.inr (KB.out _ z25))).mono ?_
  rintro e w27' ⟨rfl, rfl⟩
  go_wp2_with fail
  go_ret
  exact ⟨by first | rfl | kernel_rfl, KW.out _ z25⟩
end Go.Proofs.YthephiihcgibjaaGreatDoor
