/- A machine for closed runs: stores. No program in sight. -/
import Derived.Test.YtbeageacgalhiaaGreatDoorAmM
set_option linter.unusedVariables false
set_option linter.unusedSimpArgs false
namespace Am
open Go
noncomputable section
variable {P : Program}

def onec : AV → Bool
  | .ag _ => false
  | .tp _ => false
  | .v u => onecV u
  | _ => true
def allc (l : List AV) : Bool := List.rec true (fun a _ ih => onec a && ih) l
theorem onec_ok {m : Map} {a : AV} {v : Value} (h : cvo m a = some v) (ha : onec a = true) : v.oneCell' = true := by
  cases a <;> simp only [cvo, Option.map_eq_some_iff, Option.bind_eq_some_iff, Option.some.injEq, Option.ite_none_right_eq_some] at h
  case ag => cases ha
  case tp => cases ha
  case s => obtain ⟨_, rfl⟩ := h; rfl
  case p => obtain ⟨_, _, rfl⟩ := h; rfl
  case sl => obtain ⟨_, _, _, rfl⟩ := h; rfl
  case mp => obtain ⟨_, _, rfl⟩ := h; rfl
  case fn => obtain ⟨_, _, _, _, rfl⟩ := h; rfl
  case ifc => obtain ⟨_, _, rfl⟩ := h; rfl
  case v u => obtain ⟨h1, rfl⟩ := h; cases u <;> first | rfl | cases h1
  all_goals subst h; rfl
theorem allc_ok {m : Map} : ∀ {l : List AV} {vs : List Value}, cvs m l = some vs → allc l = true → ∀ v ∈ vs, v.oneCell' = true
  | [], vs, h, _, v, hv => by simp [cvs] at h; subst h; cases hv
  | a :: l, vs, h, ha, v, hv => by
    obtain ⟨u, us, h1, h2, rfl⟩ := cvs_cons.1 h
    have ha' : (onec a && allc l) = true := ha
    rw [Bool.and_eq_true] at ha'
    rcases List.mem_cons.1 hv with rfl | hv
    · exact onec_ok h1 ha'.1
    · exact allc_ok h2 ha'.2 v hv

/-- one block alone is another -/
structure Only (w w' : World) (b : Nat) : Prop where
  os : w'.os = w.os
  tape : w'.tape = w.tape
  output : w'.output = w.output
  size : w'.heap.size = w.heap.size
  block : ∀ k, k ≠ b → w'.heap[k]? = w.heap[k]?
theorem Only.refl (w : World) (b : Nat) : Only w w b := ⟨rfl, rfl, rfl, rfl, fun _ _ => rfl⟩
theorem Only.trans {a b c : World} {k : Nat} (h : Only a b k) (g : Only b c k) : Only a c k :=
  ⟨g.os.trans h.os, g.tape.trans h.tape, g.output.trans h.output, g.size.trans h.size, fun i hi => (g.block i hi).trans (h.block i hi)⟩

theorem stores_run (b o : Nat) (t : TypeId) (fr : Nat × Nat) : ∀ (vs : List Value) (i : Nat) (c : Array Value) (w : World), w.heap[b]? = some (.cells c t fr) → o + i + vs.length ≤ c.size → (∀ v ∈ vs, v.oneCell' = true) →
    (∀ j, o + i ≤ j → j < o + i + vs.length → ¬ (fr.1 ≤ j ∧ j < fr.2)) →
    ∃ w' c', (storeCells ⟨b, o, none⟩ vs i).run P w = .ok () w' ∧ w'.heap[b]? = some (.cells c' t fr) ∧ Only w w' b ∧ c'.size = c.size ∧
      (∀ j, o + i ≤ j → j < o + i + vs.length → c'[j]? = vs[j - (o + i)]?) ∧ (∀ j, (j < o + i ∨ o + i + vs.length ≤ j) → c'[j]? = c[j]?)
  | [], i, c, w, h, hl, hv, hf => ⟨w, c, rfl, h, .refl _ _, rfl, fun j h1 h2 => by simp at h2; omega, fun j _ => rfl⟩
  | v :: vs, i, c, w, h, hl, hv, hf => by
    simp only [List.length_cons] at hl hf
    have hlt : o + i < c.size := by omega
    have hc : w.cell? ⟨b, o + i, none⟩ = some (c[o + i]'hlt) := by simp [World.cell?, h, hlt]
    have hfz : w.frozen? ⟨b, o + i, none⟩ = false := by
      have := hf (o + i) (Nat.le_refl _) (by omega)
      simp only [World.frozen?, h]
      rw [Bool.eq_false_iff]
      simpa using this
    have h1 : (w.setCell ⟨b, o + i, none⟩ v).heap[b]? = some (.cells (c.setIfInBounds (o + i) v) t fr) := by
      simp [World.setCell, Array.getElem?_modify, h]
    obtain ⟨w', c', f1, f2, f3, f4, f5, f6⟩ := stores_run b o t fr vs (i + 1) _ (w.setCell ⟨b, o + i, none⟩ v) h1 (by simp; omega) (fun u hu => hv u (List.mem_cons_of_mem _ hu)) (fun j j1 j2 => hf j (by omega) (by omega))
    have hon : Only w (w.setCell ⟨b, o + i, none⟩ v) b := ⟨rfl, rfl, rfl, by simp [World.setCell], fun k hk => by
      simp only [World.setCell, Array.getElem?_modify]
      rw [if_neg (fun e => hk e.symm)]⟩
    refine ⟨w', c', ?_, f2, hon.trans f3, by rw [f4]; simp, ?_, ?_⟩
    · rw [storeCells]
      simp only [addr_add, Sem.run_bind]
      rw [run_store _ _ _ _ _ (hv v List.mem_cons_self)]
      simp only [hc, hfz, Bool.false_eq_true, if_false, Result.andThen_ok]
      exact f1
    · intro j j1 j2
      simp only [List.length_cons] at j2
      by_cases e : j = o + i
      · subst e
        rw [f6 _ (.inl (by omega)), Nat.sub_self, List.getElem?_cons_zero, Array.getElem?_setIfInBounds_self]
        simp [hlt]
      · rw [f5 j (by omega) (by omega), show j - (o + i) = (j - (o + (i + 1))) + 1 by omega, List.getElem?_cons_succ]
    · intro j hj
      simp only [List.length_cons] at hj
      rw [f6 j (by omega), Array.getElem?_setIfInBounds_ne (by omega)]

def asto (g : Nat) (S : St) (id off : Nat) (l : List AV) : Option St :=
  match S.h.get id with
  | some (.cells t cs fz ex) => bif ((Nat.ble g id && Nat.ble fz off) && Nat.ble (off + len l) (len cs)) && allc l then
      some ⟨S.h.put (some (.cells t (putR off l cs) fz ex)) id, S.nx⟩ else none
  | _ => none
theorem putR_length {off : Nat} {l cs : List AV} (h : off + l.length ≤ cs.length) : (putR off l cs).length = cs.length := by
  rw [putR_eq, tke_eq, drp_eq, len_eq]
  simp only [List.length_append, List.length_take, List.length_drop]; omega
theorem putR_cvs {m : Map} {off : Nat} {l cs : List AV} {us vs : List Value} (hl : cvs m l = some us) (hc : cvs m cs = some vs) : cvs m (putR off l cs) = some (vs.take off ++ (us ++ vs.drop (off + us.length))) := by
  rw [putR_eq, tke_eq, drp_eq, len_eq, ← cvs_length hl]
  exact cvs_append (cvs_take _ hc) (cvs_append hl (cvs_drop _ hc))
theorem asto_ok {g : Nat} {m : Map} {S S' : St} {w : World} (hR : R S.lk m w) {id off : Nat} {l : List AV} {us : List Value} (h : asto g S id off l = some S') (hl : cvs m l = some us) {L : Loc} (hL : m id = some L) :
    ∃ w', (storeCells ⟨L.b, L.s + off, none⟩ us).run P w = .ok () w' ∧ Step g m S.lk S.nx w m S'.lk S'.nx w' := by
  unfold asto at h
  split at h
  · rename_i t cs fz ex hlk
    cases hb : (((Nat.ble g id && Nat.ble fz off) && Nat.ble (off + len l) (len cs)) && allc l) with
    | false => rw [hb] at h; cases h
    | true =>
      rw [hb, cond_true] at h
      rw [Bool.and_eq_true, Bool.and_eq_true, Bool.and_eq_true, Nat.ble_eq, Nat.ble_eq, Nat.ble_eq, len_eq, len_eq] at hb
      obtain ⟨⟨⟨b1, b2⟩, b3⟩, b4⟩ := hb
      obtain rfl := Option.some.inj h
      obtain ⟨L', c, fr, vs, h1, h2, h3, h4, h5, h6, h7, h8⟩ := hR.holds _ _ hlk
      obtain rfl := Option.some.inj (hL.symm.trans h1)
      have e1 := cvs_length hl
      have e2 := cvs_length h5
      obtain ⟨w', c', f1, f2, f3, f4, f5, f6⟩ := stores_run (P := P) L.b (L.s + off) t fr us 0 c w h2 (by omega) (allc_ok hl b4) (fun j j1 j2 hh => h7 (j - L.s) (by omega) (by omega) (by rw [show L.s + (j - L.s) = j by omega]; exact hh))
      refine ⟨w', f1, Step.put (blk := .cells t (putR off l cs) fz ex) hR b1 hlk hL f3.block f3.size f3.os f3.tape f3.output (fun j b hj => ?_) (fun j hj => T.get_put_ne _ _ _ _ hj) ?_⟩
      · exact T.get_put _ _ _ _ hj
      · refine ⟨L, c', fr, _, hL, f2, by omega, by rw [putR_length (by omega)]; exact h4, putR_cvs hl h5, ?_, h7, fun he => ?_⟩
        · intro i v hv
          by_cases i1 : i < off
          · rw [List.getElem?_append_left (by simp; omega), List.getElem?_take_of_lt i1] at hv
            rw [f6 _ (.inl (by omega))]; exact h6 i v hv
          · by_cases i2 : i < off + us.length
            · rw [List.getElem?_append_right (by simp; omega), List.getElem?_append_left (by simp; omega)] at hv
              rw [f5 _ (by omega) (by omega), ← hv]
              congr 1; simp; omega
            · rw [List.getElem?_append_right (by simp; omega), List.getElem?_append_right (by simp; omega), List.getElem?_drop] at hv
              rw [f6 _ (.inr (by omega))]
              refine h6 i v ?_
              rw [← hv]; congr 1; simp; omega
        · obtain ⟨g1, g2⟩ := h8 he
          exact ⟨g1, by rw [f4, g2, putR_length (by omega)]⟩
  · cases h

/-- the first cells of a slice or a text -/
def abyt : Nat → Nat → List AV
  | 0, _ => []
  | n + 1, x => .i .u8 (.ofNat (Nat.mod x 256)) :: abyt n (Nat.div x 256)
theorem abyt_ok (m : Map) : ∀ n x, cvs m (abyt n x) = some ((unp n x).map fun b => .int .u8 b.toNat)
  | 0, _ => rfl
  | n + 1, x => by
    refine cvs_cons.2 ⟨.int .u8 ((UInt8.ofNat (x % 256)).toNat : Int), _, ?_, abyt_ok m n (x / 256), rfl⟩
    have : (UInt8.ofNat (x % 256)).toNat = x % 256 := by simp [UInt8.toNat_ofNat']
    rw [this]; rfl
def alno : AV → Option Nat
  | .sl _ _ n _ _ _ => some n
  | .nsl => some 0
  | .s n _ => some n
  | _ => none
def afst (lk : Lk) (es n : Nat) : AV → Option (List AV)
  | .sl id off _ _ es' _ => match lk id with
    | some (.cells _ cs _ _) => bif (Nat.beq es' es && Nat.beq (len (tke (n * es) (drp off cs))) (n * es)) then some (tke (n * es) (drp off cs)) else none
    | _ => none
  | .nsl => bif Nat.beq n 0 then some [] else none
  | .s k x => bif Nat.beq k n && Nat.beq es 1 then some (abyt n x) else none
  | _ => none
theorem alno_ok {m : Map} {a : AV} {v : Value} {n : Nat} (h : alno a = some n) (ha : cvo m a = some v) (w : World) : (Builtin.lenOf v).run P w = .ok n w := by
  unfold alno at h
  split at h
  · obtain rfl := Option.some.inj h
    simp only [cvo, Option.bind_eq_some_iff, Option.ite_none_right_eq_some, Option.some.injEq] at ha
    obtain ⟨L, _, _, rfl⟩ := ha
    rfl
  · obtain rfl := Option.some.inj h
    simp only [cvo, Option.some.injEq] at ha; subst ha; rfl
  · obtain rfl := Option.some.inj h
    simp only [cvo, Option.ite_none_right_eq_some, Option.some.injEq] at ha
    obtain ⟨_, rfl⟩ := ha
    simp [Builtin.lenOf, ByteArray.size, unp_length]
  · cases h
theorem afst_ok {m : Map} {lk : Lk} {w : World} (hR : R lk m w) {a : AV} {v : Value} {n es : Nat} {l : List AV} (hln : ∃ k, alno a = some k ∧ n ≤ k) (h : afst lk es n a = some l) (ha : cvo m a = some v) :
    ∃ us, cvs m l = some us ∧ (Builtin.firstCells es n v).run P w = .ok us.toArray w ∧ us.length = n * es := by
  unfold afst at h
  split at h
  · rename_i id off n0 cap es' pre
    split at h
    · rename_i t cs fz ex hlk
      cases hb : (Nat.beq es' es && Nat.beq (len (tke (n * es) (drp off cs))) (n * es)) with
      | false => rw [hb] at h; cases h
      | true =>
        rw [hb, cond_true] at h
        rw [Bool.and_eq_true, Nat.beq_eq, Nat.beq_eq, len_eq, tke_eq, drp_eq] at hb
        obtain ⟨rfl, hb⟩ := hb
        obtain rfl := Option.some.inj h
        obtain ⟨L, c, fr, vs, h1, h2, h3, h4, h5, h6, _⟩ := hR.holds _ _ hlk
        simp only [cvo, h1, Option.bind_some, Option.ite_none_right_eq_some, Option.some.injEq] at ha
        obtain ⟨⟨g1, g2, g3⟩, rfl⟩ := ha
        have hvs := cvs_take (n * es') (cvs_drop off h5)
        have hlen := cvs_length hvs
        refine ⟨_, by rw [tke_eq, drp_eq]; exact hvs, ?_, by rw [hlen, hb]⟩
        by_cases hn : n = 0
        · subst hn
          simp [Builtin.firstCells, loadCells, loadCellsFrom]
        · obtain ⟨k, hk, hkn⟩ := hln
          simp only [alno, Option.some.injEq] at hk
          subst hk
          have hc : cap.getD ((L.e - off) / es') ≠ 0 := by omega
          rw [if_neg hc, Nat.sub_zero]
          have hcell : ∀ j v, ((vs.drop off).take (n * es'))[j]? = some v → w.cell? ((⟨L.b, L.s + off, none⟩ : Addr).add j) = some v := by
            intro j v hj
            rw [addr_add]
            rw [List.getElem?_take] at hj
            split at hj
            · rw [List.getElem?_drop] at hj
              have := h6 _ _ hj
              rw [← Nat.add_assoc] at this
              exact cell_at h2 this
            · cases hj
          have hl := run_loadCells_list (P := P) (w := w) ⟨L.b, L.s + off, none⟩ _ hcell
          rw [hlen, hb] at hl
          exact hl
    · cases h
  · cases hb : Nat.beq n 0 with
    | false => rw [hb] at h; cases h
    | true =>
      rw [hb, cond_true] at h
      rw [Nat.beq_eq] at hb
      obtain rfl := Option.some.inj h
      simp only [cvo, Option.some.injEq] at ha; subst ha
      exact ⟨[], rfl, rfl, by simp [hb]⟩
  · rename_i k x
    cases hb : (Nat.beq k n && Nat.beq es 1) with
    | false => rw [hb] at h; cases h
    | true =>
      rw [hb, cond_true] at h
      rw [Bool.and_eq_true, Nat.beq_eq, Nat.beq_eq] at hb
      obtain ⟨rfl, rfl⟩ := hb
      obtain rfl := Option.some.inj h
      simp only [cvo, Option.ite_none_right_eq_some, Option.some.injEq] at ha
      obtain ⟨_, rfl⟩ := ha
      refine ⟨_, abyt_ok m k x, ?_, by simp [unp_length]⟩
      simp only [Builtin.firstCells, ba_extract, Sem.run_pure]
      congr 1
      simp [List.take_of_length_le (Nat.le_of_eq (unp_length k x))]
  · cases h
end
end Am
