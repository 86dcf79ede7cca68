/- A machine for closed runs: all operations that write. No program in sight. -/
import Derived.Test.YtbeageacgalhiaaGreatDoorAmR
set_option linter.unusedVariables false
set_option linter.unusedSimpArgs false
namespace Am
open Go
noncomputable section
variable {P : Program}

/-! a text's letters, one by one -/
def arng (P : Program) (g : Nat) (S : St) (t : TypeId) (a : AV) : Option (AV × St) :=
  match und P t, a with
  | some .string, .s n x => bif Nat.ble g S.nx then some (.p S.nx 0, ⟨S.h.put (some (.it n x 0)) S.nx, Nat.succ S.nx⟩) else none
  | _, _ => none
theorem arng_ok {g : Nat} {m : Map} {S S' : St} {w : World} (hR : R S.lk m w) (hf : Fre m S.nx S'.nx) {t : TypeId} {a r : AV} {av : Value} (h : arng P g S t a = some (r, S')) (ha : cvo m a = some av) :
    ∃ m' w' v, (Instr.range t av).run P w = .ok v w' ∧ cvo m' r = some v ∧ Step g m S.lk S.nx w m' S'.lk S'.nx w' := by
  unfold arng at h
  split at h
  rotate_left
  · cases h
  rename_i n x ht
  cases hb : Nat.ble g S.nx with
  | false => rw [hb] at h; cases h
  | true =>
  rw [hb, cond_true] at h
  rw [Nat.ble_eq] at hb
  obtain ⟨rfl, rfl⟩ := Prod.mk.inj (Option.some.inj h)
  have hm : m S.nx = none := hf S.nx (Nat.le_refl _) (Nat.lt_succ_self _)
  simp only [cvo, Option.ite_none_right_eq_some, Option.some.injEq] at ha
  obtain ⟨hx, rfl⟩ := ha
  refine ⟨mset m S.nx ⟨w.heap.size, 0, 0⟩, w.alloc (.stringIter ⟨(unp n x).toArray⟩ 0), .pointer (some ⟨w.heap.size, 0, none⟩), ?_, by simp [cvo, mset_self], ?_⟩
  · simp [Instr.range, run_und ht]
  · exact Step.new (blk := .it n x 0) hR hb hm rfl rfl rfl rfl (fun j b hj => T.get_put _ _ _ _ hj) (fun j hj => T.get_put_ne _ _ _ _ hj) ⟨_, mset_self _ _ _, (by show (w.heap.push _)[w.heap.size]? = _; simp), hx, rfl⟩
def anxt (g : Nat) (S : St) (a : AV) : Option (AV × St) :=
  match a with
  | .p id off => match S.h.get id with
    | some (.it n x pos) => bif Nat.beq off 0 && Nat.ble g id then
        (bif Nat.blt pos n then
          (bif Nat.blt (Nat.mod (Nat.shiftRight x (8 * pos)) 256) 128 then
            some (.tp [.b true, .i .i64 (.ofNat pos), .i .i32 (.ofNat (Nat.mod (Nat.shiftRight x (8 * pos)) 256))], ⟨S.h.put (some (.it n x (Nat.succ pos))) id, S.nx⟩) else none)
        else some (.tp [.b false], S)) else none
    | _ => none
  | _ => none
theorem anxt_ok {g : Nat} {m : Map} {S S' : St} {w : World} (hR : R S.lk m w) {a r : AV} {av : Value} (h : anxt g S a = some (r, S')) (ha : cvo m a = some av) (ty : TypeId) :
    ∃ w' v, (Instr.next av true ty).run P w = .ok v w' ∧ cvo m r = some v ∧ Step g m S.lk S.nx w m S'.lk S'.nx w' := by
  unfold anxt at h
  split at h
  rotate_left
  · cases h
  rename_i id off
  split at h
  rotate_left
  · cases h
  rename_i n x pos hlk
  cases hb : (Nat.beq off 0 && Nat.ble g id) with
  | false => rw [hb] at h; cases h
  | true =>
  rw [hb, cond_true] at h
  rw [Bool.and_eq_true, Nat.beq_eq, Nat.ble_eq] at hb
  obtain ⟨rfl, hg⟩ := hb
  obtain ⟨L, h1, h2, hx, h3⟩ := hR.holds _ _ hlk
  simp only [cvo, h1, Option.map_some, Option.some.injEq, h3] at ha
  subst ha
  have hobj : (getObj L.b).run P w = .ok (.stringIter ⟨(unp n x).toArray⟩ pos) w := by
    simp only [getObj, Sem.run, h2]
  have hsz : (ByteArray.mk (unp n x).toArray).size = n := by simp [ByteArray.size, unp_length]
  cases hp : Nat.blt pos n with
  | false =>
    rw [hp, cond_false] at h
    obtain ⟨rfl, rfl⟩ := Prod.mk.inj (Option.some.inj h)
    have hp' : ¬ pos < n := by intro hh; rw [← blt_iff, hp] at hh; cases hh
    refine ⟨w, .tuple #[.bool false], ?_, by simp [cvo, cvs], Step.refl hR⟩
    simp [Instr.next, hobj, hsz, hp']
  | true =>
    rw [hp, cond_true] at h
    rw [blt_iff] at hp
    cases hq : Nat.blt (Nat.mod (Nat.shiftRight x (8 * pos)) 256) 128 with
    | false => rw [hq] at h; cases h
    | true =>
    rw [hq, cond_true] at h
    rw [blt_iff] at hq
    obtain ⟨rfl, rfl⟩ := Prod.mk.inj (Option.some.inj h)
    have hget : ((ByteArray.mk (unp n x).toArray)[pos]'(by rw [hsz]; exact hp)).toNat = Nat.mod (Nat.shiftRight x (8 * pos)) 256 := by
      have hg := unp_get n x pos hp
      rw [List.getElem?_eq_some_iff] at hg
      obtain ⟨_, hg⟩ := hg
      have e : (ByteArray.mk (unp n x).toArray)[pos]'(by rw [hsz]; exact hp) = (unp n x)[pos] := rfl
      rw [e, hg]
      have : (x >>> (8 * pos)) % 256 < 256 := Nat.mod_lt _ (by omega)
      simp [UInt8.toNat_ofNat']
      rfl
    have hdec := decode_ascii (ByteArray.mk (unp n x).toArray) pos (by rw [hsz]; exact hp) (by rw [hget]; exact hq)
    rw [hget] at hdec
    have hset : ∀ o, (setObj L.b o).run P w = .ok () { w with heap := w.heap.setIfInBounds L.b o } := by
      intro o; simp only [setObj, Sem.run, h2]
    obtain ⟨f1, f2⟩ := only_obj (o' := .stringIter ⟨(unp n x).toArray⟩ (pos + 1)) h2
    refine ⟨_, .tuple #[.bool true, goInt (pos : Int), .int .i32 ((Nat.mod (Nat.shiftRight x (8 * pos)) 256 : Nat) : Int)], ?_, ?_, Step.put (blk := .it n x (Nat.succ pos)) hR hg hlk h1 f1.block f1.size rfl rfl rfl (fun j b hj => T.get_put _ _ _ _ hj) (fun j hj => T.get_put_ne _ _ _ _ hj) ⟨L, h1, f2, hx, h3⟩⟩
    · simp [Instr.next, hobj, hsz, hp, hdec, hset]
    · simp [cvo, cvs, goInt]

/-! unsafe.String -/
theorem run_loadBytes (w : World) (b : Nat) : ∀ (l : List UInt8) (o : Nat) (acc : ByteArray), (∀ i v, l[i]? = some v → w.cell? ⟨b, o + i, none⟩ = some (.int .u8 (v.toNat : Int))) →
    (loadBytes ⟨b, o, none⟩ acc l.length).run P w = .ok (acc ++ ⟨l.toArray⟩) w
  | [], o, acc, h => by
    simp only [loadBytes, List.length_nil, Sem.run_pure]
    congr 1
    apply ByteArray.ext; simp [ByteArray.data_append]
  | v :: l, o, acc, h => by
    have h0 := h 0 v rfl
    rw [Nat.add_zero] at h0
    simp only [List.length_cons, loadBytes, Sem.run_bind, run_load, h0, Result.andThen_ok]
    rw [addr_add]
    have ih := run_loadBytes w b l (o + 1) (acc.push ((v.toNat : Int).toNat).toUInt8) (fun i u hu => by
      have := h (i + 1) u (by rw [List.getElem?_cons_succ]; exact hu)
      rw [show o + 1 + i = o + (i + 1) by omega]; exact this)
    rw [ih]
    congr 1
    apply ByteArray.ext
    simp [ByteArray.data_append, ByteArray.data_push]
def auns (P : Program) (g : Nat) (S : St) (ts : List TypeId) (a l : AV) : Option (AV × St) :=
  match a, l with
  | .p id off, .i _ (.ofNat n) => match ts with
    | pt :: _ => match und P pt, S.h.get id with
      | some (.pointer e), some (.cells t cs _ _) => bif ((Nat.beq (P.cellsOf t) 1 && Nat.beq (P.underlyingId t) (P.underlyingId e)) && (Nat.ble g id && Nat.beq (len (tke n (drp off cs))) n)) && (!(Nat.beq n 0) && Nat.ble n 1073741824) then
          (match apkb (tke n (drp off cs)) with
          | some x => some (.s n x, ⟨S.h.put none id, S.nx⟩)
          | none => none) else none
      | _, _ => none
    | [] => none
  | .np, .i _ (.ofNat 0) => match ts with
    | _ :: _ => some (.s 0 0, S)
    | [] => none
  | _, _ => none
theorem auns_ok {g : Nat} {m : Map} {S S' : St} {w : World} (hR : R S.lk m w) {ts : List TypeId} {a l r : AV} {av lv : Value} (h : auns P g S ts a l = some (r, S')) (ha : cvo m a = some av) (hl : cvo m l = some lv) (ty : TypeId) :
    ∃ w' v, (Builtin.unsafeString_ ts.toArray ty #[av, lv]).run P w = .ok v w' ∧ cvo m r = some v ∧ Step g m S.lk S.nx w m S'.lk S'.nx w' := by
  unfold auns at h
  split at h
  · rename_i id off k n
    split at h
    rotate_left
    · cases h
    rename_i pt rest
    split at h
    rotate_left
    · cases h
    rename_i e t cs fz ex hpt hlk
    cases hb : (((Nat.beq (P.cellsOf t) 1 && Nat.beq (P.underlyingId t) (P.underlyingId e)) && (Nat.ble g id && Nat.beq (len (tke n (drp off cs))) n)) && (!(Nat.beq n 0) && Nat.ble n 1073741824)) with
    | false => rw [hb] at h; cases h
    | true =>
    rw [hb, cond_true] at h
    rw [Bool.and_eq_true, Bool.and_eq_true, Bool.and_eq_true, Bool.and_eq_true, Bool.and_eq_true, Nat.beq_eq, Nat.beq_eq, Nat.ble_eq, Nat.beq_eq, Bool.not_eq_true', ← Bool.not_eq_true, Nat.beq_eq, Nat.ble_eq, len_eq, tke_eq, drp_eq] at hb
    obtain ⟨⟨⟨b1, b2⟩, b3, b4⟩, b5, b6⟩ := hb
    split at h
    · rename_i x hx
      obtain ⟨rfl, rfl⟩ := Prod.mk.inj (Option.some.inj h)
      obtain ⟨L, c, fr, vs, h1, h2, h3, h4, h5, h6, _⟩ := hR.holds _ _ hlk
      simp only [cvo, h1, Option.map_some, Option.some.injEq] at ha hl
      subst ha hl
      rw [tke_eq, drp_eq] at hx
      have hvs := cvs_take n (cvs_drop off h5)
      obtain ⟨q1, q2⟩ := apkb_ok hx hvs
      rw [b4] at q1 q2
      have hlen : off + n ≤ cs.length := by
        simp only [List.length_take, List.length_drop] at b4; omega
      have hcell : ∀ i v, (unp n x)[i]? = some v → w.cell? ⟨L.b, L.s + off + i, none⟩ = some (.int .u8 (v.toNat : Int)) := by
        intro i v hv
        have hi : i < n := by have := (List.getElem?_eq_some_iff.1 hv).1; rwa [unp_length] at this
        have e1 : vs[off + i]? = some (.int .u8 (v.toNat : Int)) := by
          have e2 : ((vs.drop off).take n)[i]? = some (.int .u8 (v.toNat : Int)) := by rw [q2]; simp [hv]
          rwa [List.getElem?_take_of_lt hi, List.getElem?_drop] at e2
        have := h6 _ _ e1
        rw [← Nat.add_assoc] at this
        exact cell_at h2 this
      have hload := run_loadBytes (P := P) w L.b (unp n x) (L.s + off) .empty hcell
      rw [unp_length] at hload
      have hvar : (variablesAt ⟨L.b, L.s + off, none⟩ e n).run P w = .ok true w := by
        have hsh : w.shape? L.b = some (t, c.size) := by simp [World.shape?, h2]
        have hlies : liesAt P P.depth t (c.size / P.cellsOf t) (L.s + off) e n = true := by
          have hd : ∃ d, P.depth = d + 1 := ⟨2 * (P.types.size + Made.depth) + 1, rfl⟩
          obtain ⟨d, hd⟩ := hd
          have hsl : sameLayout P P.depth t e = true := by
            rw [hd]; simp only [sameLayout, b2, beq_self_eq_true, Bool.true_or]
          have hrow : rowAt P (sameLayout P P.depth · e) P.depth t (c.size / P.cellsOf t) (L.s + off) n = true := by
            rw [hd]
            simp only [rowAt, b1]
            rw [← hd]
            simp only [Nat.succ_ne_zero, if_false, Nat.div_one, Nat.mod_one, beq_self_eq_true, Bool.true_and, hsl, Bool.and_true]
            have : decide (L.s + off + n ≤ c.size) = true := decide_eq_true (by omega)
            simp [this]
          have : ∀ k, liesAt P (k + 1) t (c.size / P.cellsOf t) (L.s + off) e n = true := by
            intro k; simp only [liesAt, hrow, Bool.true_or]
          rw [hd]; exact this d
        simp [variablesAt, hsh, hlies]
      have hel : (elemOf pt).run P w = .ok e w := by simp [elemOf, run_und hpt]
      refine ⟨w.freeze ⟨L.b, L.s + off, none⟩ n, .string ⟨(unp n x).toArray⟩, ?_, by simp only [cvo]; rw [if_pos q1], ?_⟩
      · have hmx : ¬ ((n : Int) > IntKind.i64.max) := by simp only [IntKind.max, IntKind.signed, IntKind.bits]; simp; omega
        have e0 : ByteArray.empty ++ (⟨(unp n x).toArray⟩ : ByteArray) = ⟨(unp n x).toArray⟩ := by apply ByteArray.ext; simp [ByteArray.data_append]
        rw [e0] at hload
        have hmx' : ¬ (9223372036854775807 < (n : Int)) := by omega
        have key : Builtin.unsafeString_ (pt :: rest).toArray ty #[.pointer (some ⟨L.b, L.s + off, none⟩), .int k (Int.ofNat n)] = (do
            if (n : Int) < 0 then runtimePanic (.error "unsafe.String: len out of range")
            if (n : Int) > IntKind.i64.max then unsupported (.unsafePointer "String: a length above the largest int")
            if (n : Int) = 0 then pure (.string .empty)
            else if ← variablesAt ⟨L.b, L.s + off, none⟩ (← elemOf pt) n then do
              let s ← loadBytes ⟨L.b, L.s + off, none⟩ .empty n
              freeze ⟨L.b, L.s + off, none⟩ n
              pure (.string s)
            else unsupported (.unsafePointer "String: not so many bytes at ptr")) := rfl
        rw [key]
        rw [if_neg (by omega), if_neg hmx, if_neg (by omega)]
        simp only [Sem.run_bind, Sem.run_pure, Result.andThen_ok, hel, hvar, if_true, hload, run_freeze]
      · have hfz : ∀ j, j ≠ L.b → (w.freeze ⟨L.b, L.s + off, none⟩ n).heap[j]? = w.heap[j]? := by
          intro j hj
          unfold World.freeze
          rw [if_neg b5]
          simp only [Array.getElem?_modify]
          rw [if_neg (fun e => hj e.symm)]
        refine Step.drop hR b3 hlk h1 hfz ?_ ?_ ?_ ?_ (fun j b hj => ?_) (fun j hj => T.get_put_ne _ _ _ _ hj)
        · unfold World.freeze; rw [if_neg b5]; simp
        · unfold World.freeze; rw [if_neg b5]
        · unfold World.freeze; rw [if_neg b5]
        · unfold World.freeze; rw [if_neg b5]
        · by_cases e1 : j = id
          · subst e1
            have : (S.h.put none j).get j = some b := hj
            rw [T.get_put_none] at this; cases this
          · exact ⟨e1, by rw [← hj]; exact (T.get_put_ne _ _ _ _ e1).symm⟩
    · cases h
  · split at h
    · rename_i k pt rest
      obtain ⟨rfl, rfl⟩ := Prod.mk.inj (Option.some.inj h)
      simp only [cvo, Option.some.injEq] at ha hl
      subst ha hl
      refine ⟨w, .string ⟨(unp 0 0).toArray⟩, rfl, by simp [cvo], Step.refl hR⟩
    · cases h
  · cases h
end
end Am
