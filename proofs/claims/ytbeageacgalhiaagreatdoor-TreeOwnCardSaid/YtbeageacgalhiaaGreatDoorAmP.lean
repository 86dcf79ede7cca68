/- A machine for closed runs: append. No program in sight. -/
import Derived.Test.YtbeageacgalhiaaGreatDoorAmO
set_option linter.unusedVariables false
set_option linter.unusedSimpArgs false
namespace Am
open Go
noncomputable section
variable {P : Program}

/-- in place: the block goes over to a new number -/
theorem move_ok {g : Nat} {m : Map} {S : St} {w : World} (hR : R S.lk m w) (hg : g ≤ S.nx) (hm : m S.nx = none) {id off ln n es fz : Nat} {e : TypeId} {cs : List AV} {ex : Bool} {L : Loc} (hL : m id = some L) (hlk : S.h.get id = some (.cells e cs fz ex)) (hgi : g ≤ id) (hfz : fz ≤ off + ln * es)
    {news olds : List Value} {new old : List AV} (hnew : cvs m new = some news) (hnl : news.length = n * es) (hone : ∀ v ∈ news, v.oneCell' = true) (hold : cvs m old = some olds) (holn : olds.length = ln * es) (hoc : ∀ i v, olds[i]? = some v → ∀ vs, cvs m cs = some vs → vs[off + i]? = some v)
    (h0 : 0 < es) (hn : 0 < n) (hle : ln + n ≤ (L.e - off) / es) (hoff : off + (L.e - off) / es * es ≤ L.e) :
    ∃ w', (storeCells ⟨L.b, L.s + off + ln * es, none⟩ news).run P w = .ok () w' ∧ cvo (mset m S.nx ⟨L.b, L.s + off, L.e - off⟩) (.sl S.nx 0 (ln + n) none es 0) = some (.slice (some ⟨L.b, L.s + off, none⟩) (ln + n) ((L.e - off) / es)) ∧
      Step g m S.lk S.nx w (mset m S.nx ⟨L.b, L.s + off, L.e - off⟩) ((S.h.put none id).put (some (.cells e (old ++ new) (fz - off) false)) S.nx).get (S.nx + 1) w' := by
  obtain ⟨L', c, fr, vs, h1, h2, h3, h4, h5, h6, h7, h8⟩ := hR.holds _ _ hlk
  obtain rfl := Option.some.inj (hL.symm.trans h1)
  have hmul : (ln + n) * es ≤ (L.e - off) / es * es := Nat.mul_le_mul_right es hle
  rw [Nat.add_mul] at hmul
  obtain ⟨w', c', f1, f2, f3, f4, f5, f6⟩ := stores_run (P := P) L.b (L.s + off + ln * es) e fr news 0 c w h2 (by omega) hone (fun j j1 j2 hh => h7 (j - L.s) (by omega) (by omega) (by rw [show L.s + (j - L.s) = j by omega]; exact hh))
  have hne : S.nx ≠ id := fun e => by rw [e, hL] at hm; cases hm
  refine ⟨w', f1, ?_, Step.move (blk := .cells e (old ++ new) (fz - off) false) hR hgi hg hlk hL hm rfl f3.block f3.size f3.os f3.tape f3.output (fun j b hj => ?_) (fun j j1 j2 => ?_) ?_⟩
  · simp only [cvo, mset_self, Option.bind_some, Option.getD_none, Nat.sub_zero]
    rw [if_pos ⟨hle, h0, by omega⟩]
    by_cases e0 : (L.e - off) / es = 0 <;> simp [e0]
  · rcases T.get_put _ _ _ _ hj with ⟨rfl, rfl⟩ | ⟨k1, k2⟩
    · exact .inl ⟨rfl, rfl⟩
    · by_cases k3 : j = id
      · subst k3; rw [T.get_put_none] at k2; cases k2
      · rw [T.get_put_ne _ _ _ _ k3] at k2; exact .inr ⟨k1, k3, k2⟩
  · rw [T.get_put_ne _ _ _ _ j2, T.get_put_ne _ _ _ _ j1]; rfl
  · have e2 := cvs_length h5
    have hcv := cvs_append hold hnew
    refine ⟨_, c', fr, _, mset_self _ _ _, f2, by simp only; omega, by rw [← cvs_length hcv, List.length_append]; simp only; omega, cvs_mono (mset_ext hm) _ hcv, fun i v hv => ?_, fun i i1 i2 hh => ?_, fun h => by cases h⟩
    · by_cases i1 : i < ln * es
      · rw [List.getElem?_append_left (by omega)] at hv
        simp only
        rw [f6 _ (.inl (by omega)), Nat.add_assoc]
        exact h6 _ _ (hoc i v hv vs h5)
      · rw [List.getElem?_append_right (by omega)] at hv
        have hil : i - olds.length < news.length := (List.getElem?_eq_some_iff.1 hv).1
        simp only
        rw [f5 _ (by omega) (by omega), ← hv]
        congr 1; omega
    · simp only at i2 hh
      exact h7 (off + i) (by omega) (by omega) (by rw [← Nat.add_assoc]; exact hh)

theorem aapp_ok {g : Nat} {m : Map} {S S' : St} {w : World} (hR : R S.lk m w) (hf : Fre m S.nx S'.nx) {ts : List TypeId} {s x r : AV} {sv xv : Value} (h : aapp P g S ts s x = some (r, S')) (hs : cvo m s = some sv) (hx : cvo m x = some xv) (ty : TypeId) :
    ∃ m' w' v, (Builtin.append_ ts.toArray ty #[sv, xv]).run P w = .ok v w' ∧ cvo m' r = some v ∧ Step g m S.lk S.nx w m' S'.lk S'.nx w' := by
  unfold aapp at h
  split at h
  · cases h
  rename_i t rest
  split at h
  rotate_left
  · cases h
  rename_i e ht
  split at h
  rotate_left
  · cases h
  rename_i i z n hi hz hn
  cases hb : (((appZ P rest && !(Nat.beq i.size 0)) && (Nat.beq (len (cel z)) i.size && Nat.ble i.bytes 65536)) && (Nat.ble g S.nx && Nat.ble n 1073741824)) with
  | false => rw [hb] at h; cases h
  | true =>
  rw [hb, cond_true] at h
  rw [Bool.and_eq_true, Bool.and_eq_true, Bool.and_eq_true, Bool.and_eq_true, Bool.and_eq_true, Bool.not_eq_true', ← Bool.not_eq_true, Nat.beq_eq, Nat.beq_eq, Nat.ble_eq, Nat.ble_eq, Nat.ble_eq, len_eq] at hb
  obtain ⟨⟨⟨b1, b2⟩, b3, b4⟩, b5, b6⟩ := hb
  split at h
  rotate_left
  · cases h
  rename_i new hnew
  cases hc : allc new with
  | false => rw [hc] at h; cases h
  | true =>
  rw [hc, cond_true] at h
  obtain ⟨tx, news, rfl, hsrc, hcn⟩ := app_src (P := P) hR b1 hx hn hnew hc
  have fre1 : S'.nx = S.nx + 1 → m S.nx = none := fun e => hf S.nx (Nat.le_refl _) (by omega)
  unfold aapp1 at h
  split at h
  · simp only [cvo, Option.some.injEq] at hs; subst hs
    cases hn0 : Nat.beq n 0 with
    | true =>
      rw [hn0, cond_true] at h
      rw [Nat.beq_eq] at hn0; subst hn0
      obtain ⟨rfl, rfl⟩ := Prod.mk.inj (Option.some.inj h)
      exact ⟨m, w, .slice none 0 0, app_in ht hi hsrc none 0 0 (by omega) (fun a e => by cases e) (fun _ => rfl) ty, rfl, Step.refl hR⟩
    | false =>
      rw [hn0, cond_false] at h
      rw [Bool.eq_false_iff, Ne, Nat.beq_eq] at hn0
      have h' := Option.some.inj h
      have e1 : S' = (afresh S e i.size (0 + n) ([] ++ new)).2 := by rw [Nat.zero_add, List.nil_append, h']
      have e2 : r = (afresh S e i.size (0 + n) ([] ++ new)).1 := by rw [Nat.zero_add, List.nil_append, h']
      obtain ⟨m', w', v, f1, f2, f3⟩ := grow_ok (P := P) (ty := ty) (old := []) (olds := []) hR b5 (fre1 (by rw [e1]; rfl)) ht hi hz b3 b2 b4 hsrc hcn rfl none 0 0 (by omega) (by omega) (by simp) (run_firstCells_none _ _ _ _ _)
      exact ⟨m', w', v, f1, by rw [e2]; exact f2, by rw [e1]; exact f3⟩
  · rename_i id off ln cap es pre
    cases hn0 : Nat.beq n 0 with
    | true =>
      rw [hn0, cond_true] at h
      rw [Nat.beq_eq] at hn0; subst hn0
      obtain ⟨rfl, rfl⟩ := Prod.mk.inj (Option.some.inj h)
      have hs' := hs
      simp only [cvo, Option.bind_eq_some_iff, Option.ite_none_right_eq_some, Option.some.injEq] at hs'
      obtain ⟨L, hL, ⟨g1, g2, g3⟩, rfl⟩ := hs'
      have hnil : news = [] := List.eq_nil_of_length_eq_zero (by rw [hsrc.newsLen, Nat.zero_mul])
      subst hnil
      exact ⟨m, w, _, app_in ht hi hsrc _ ln _ g1 (fun a e => rfl) (fun _ => rfl) ty, hs, Step.refl hR⟩
    | false =>
    rw [hn0, cond_false] at h
    rw [Bool.eq_false_iff, Ne, Nat.beq_eq] at hn0
    cases hb2 : (Nat.beq es i.size && Nat.ble (ln + n) 1073741824) with
    | false => rw [hb2] at h; cases h
    | true =>
    rw [hb2, cond_true] at h
    rw [Bool.and_eq_true, Nat.beq_eq, Nat.ble_eq] at hb2
    obtain ⟨rfl, hsm⟩ := hb2
    have hs' := hs
    simp only [cvo, Option.bind_eq_some_iff, Option.ite_none_right_eq_some, Option.some.injEq] at hs'
    obtain ⟨L, hL, ⟨g1, g2, g3⟩, hsv⟩ := hs'
    -- a new block, out of the old cells
    have fresh : ∀ (old : List AV) (c : Nat), cap.getD ((L.e - off) / i.size) = c → ¬ ln + n ≤ c → afst S.lk i.size ln (.sl id off ln cap i.size pre) = some old → m S.nx = none →
        ∃ m' w' v, (Builtin.append_ #[t, tx] ty #[sv, xv]).run P w = .ok v w' ∧ cvo m' (afresh S e i.size (ln + n) (old ++ new)).1 = some v ∧ Step g m S.lk S.nx w m' (afresh S e i.size (ln + n) (old ++ new)).2.lk (afresh S e i.size (ln + n) (old ++ new)).2.nx w' := by
      intro old c hcc hlt ho hm
      obtain ⟨olds, o1, o2, o3⟩ := afst_ok (P := P) (w := w.drew) (hR.heap rfl) ⟨ln, rfl, Nat.le_refl _⟩ ho hs
      rw [← hsv, hcc] at o2 ⊢
      exact grow_ok (P := P) (ty := ty) hR b5 hm ht hi hz b3 b2 b4 hsrc hcn o1 _ ln c (by omega) hsm o3 o2
    split at h
    · rename_i c
      simp only [Option.getD_some] at g1 g3 hsv
      cases hle : Nat.ble (ln + n) c with
      | true =>
        rw [hle, cond_true] at h
        rw [Nat.ble_eq] at hle
        split at h
        · rename_i S1 hS1
          obtain ⟨rfl, rfl⟩ := Prod.mk.inj (Option.some.inj h)
          obtain ⟨w', q1, q2⟩ := asto_ok (P := P) hR hS1 hcn hL
          have hc0 : c ≠ 0 := by omega
          rw [if_neg hc0, Nat.sub_zero] at hsv
          refine ⟨m, w', .slice (some ⟨L.b, L.s + off, none⟩) (ln + n) c, ?_, ?_, q2⟩
          · rw [← hsv]
            exact app_in ht hi hsrc _ ln c hle (fun a ea => by
              obtain rfl := Option.some.inj ea
              rw [addr_add, Nat.add_assoc]; exact q1) (fun ea => by cases ea) ty
          · simp only [cvo, hL, Option.bind_some, Option.getD_some]
            rw [if_pos ⟨hle, g2, g3⟩, if_neg hc0, Nat.sub_zero]
        · cases h
      | false =>
        rw [hle, cond_false] at h
        have hle' : ¬ ln + n ≤ c := by intro hh; rw [← Nat.ble_eq, hle] at hh; cases hh
        split at h
        · rename_i old ho
          have h' := Option.some.inj h
          obtain ⟨m', w', v, f1, f2, f3⟩ := fresh old c rfl hle' ho (fre1 (congrArg (fun z : AV × St => z.2.nx) h').symm)
          rw [h'] at f2 f3
          exact ⟨m', w', v, f1, f2, f3⟩
        · cases h
    · split at h
      · rename_i t0 cs fz ex old hlk ho
        cases hb3 : ((Nat.beq t0 e && Nat.ble g id) && Nat.ble fz (off + ln * i.size)) with
        | false => rw [hb3] at h; cases h
        | true =>
        rw [hb3, cond_true] at h
        rw [Bool.and_eq_true, Bool.and_eq_true, Nat.beq_eq, Nat.ble_eq, Nat.ble_eq] at hb3
        obtain ⟨⟨rfl, d1⟩, d2⟩ := hb3
        obtain ⟨rfl, rfl⟩ := Prod.mk.inj (Option.some.inj h)
        have hm : m S.nx = none := fre1 rfl
        simp only [Option.getD_none] at g1 g3 hsv
        by_cases hle : ln + n ≤ (L.e - off) / i.size
        · obtain ⟨olds, o1, o2, o3⟩ := afst_ok (P := P) hR ⟨ln, rfl, Nat.le_refl _⟩ ho hs
          have hoc : ∀ i' v, olds[i']? = some v → ∀ vs, cvs m cs = some vs → vs[off + i']? = some v := by
            intro i' v hv vs hvs
            unfold afst at ho
            have hlk' : S.lk id = some (.cells t0 cs fz ex) := hlk
            simp only [hlk'] at ho
            cases hb4 : (Nat.beq i.size i.size && Nat.beq (len (tke (ln * i.size) (drp off cs))) (ln * i.size)) with
            | false => rw [hb4] at ho; cases ho
            | true =>
              rw [hb4, cond_true] at ho
              obtain rfl := Option.some.inj ho
              rw [tke_eq, drp_eq] at o1
              have := cvs_take (ln * i.size) (cvs_drop off hvs)
              obtain rfl := Option.some.inj (o1.symm.trans this)
              rw [List.getElem?_take] at hv
              split at hv
              · rwa [List.getElem?_drop] at hv
              · cases hv
          obtain ⟨w', q1, q2, q3⟩ := move_ok (P := P) hR b5 hm hL hlk d1 d2 hcn hsrc.newsLen hsrc.one o1 o3 hoc g2 (by omega) hle g3
          have hc0 : (L.e - off) / i.size ≠ 0 := by omega
          rw [if_neg hc0, Nat.sub_zero] at hsv
          refine ⟨_, w', _, ?_, q2, q3⟩
          rw [← hsv]
          exact app_in ht hi hsrc _ ln _ hle (fun a ea => by
            obtain rfl := Option.some.inj ea
            rw [addr_add]; exact q1) (fun ea => by cases ea) ty
        · obtain ⟨m', w', v, f1, f2, f3⟩ := fresh old _ rfl hle ho hm
          refine ⟨m', w', v, f1, f2, ?_⟩
          -- the old number is let go, what is new is no cut of a frozen text
          have hne : S.nx ≠ id := fun e => by rw [e, hL] at hm; cases hm
          have sub : ∀ j x, ((S.h.put none id).put (some (.cells t0 (old ++ new) (fz - off) false)) S.nx).get j = some x → (j = S.nx ∧ x = .cells t0 (old ++ new) (fz - off) false) ∨ (j ≠ S.nx ∧ j ≠ id ∧ S.lk j = some x) := by
            intro j x hj
            rcases T.get_put _ _ _ _ hj with ⟨rfl, rfl⟩ | ⟨k1, k2⟩
            · exact .inl ⟨rfl, rfl⟩
            · by_cases k3 : j = id
              · subst k3; rw [T.get_put_none] at k2; cases k2
              · rw [T.get_put_ne _ _ _ _ k3] at k2; exact .inr ⟨k1, k3, k2⟩
          have low : ∀ j x, ((S.h.put none id).put (some (.cells t0 (old ++ new) (fz - off) false)) S.nx).get j = some x → ∃ y, (afresh S t0 i.size (ln + n) (old ++ new)).2.lk j = some y ∧ (Holds m' w' j y → Holds m' w' j x) := by
            intro j x hj
            have hlk1 : ∀ k, (afresh S t0 i.size (ln + n) (old ++ new)).2.lk k = (S.h.put (some (.cells t0 (old ++ new) 0 false)) S.nx).get k := fun _ => rfl
            rcases sub j x hj with ⟨rfl, rfl⟩ | ⟨k1, k2, k3⟩
            · cases hk : (S.h.put (some (.cells t0 (old ++ new) 0 false)) S.nx).get S.nx with
              | none => exact absurd hk (T.lives_put _ _ _ _ _ _ hj)
              | some y =>
                have := T.get_put_self _ _ _ hk
                subst this
                exact ⟨_, (hlk1 _).trans hk, fun ⟨L, c, fr, vs, a1, a2, a3, a4, a5, a6, a7, a8⟩ => ⟨L, c, fr, vs, a1, a2, a3, a4, a5, a6, fun i _ hi => a7 i (Nat.zero_le _) hi, a8⟩⟩
            · exact ⟨x, (hlk1 j).trans (by rw [T.get_put_ne _ _ _ _ k1]; exact k3), fun h => h⟩
          exact f3.weaken low (fun j x hj hx => by
            rw [← hx]; symm
            show ((S.h.put none id).put (some (.cells t0 (old ++ new) (fz - off) false)) S.nx).get j = (S.h.put (some (.cells t0 (old ++ new) 0 false)) S.nx).get j
            rw [T.get_put_ne _ _ _ _ (by omega), T.get_put_ne _ _ _ _ (by omega), T.get_put_ne _ _ _ _ (by omega)])
      · cases h
  · cases h
end
end Am
