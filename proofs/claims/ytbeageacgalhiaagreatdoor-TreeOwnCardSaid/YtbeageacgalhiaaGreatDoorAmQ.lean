/- A machine for closed runs: copy, maps, texts. No program in sight. -/
import Derived.Test.YtbeageacgalhiaaGreatDoorAmP
import Derived.Laws.BytesString
import Derived.Laws.RangeString
set_option linter.unusedVariables false
set_option linter.unusedSimpArgs false
namespace Am
open Go
noncomputable section
variable {P : Program}

def acpy (P : Program) (g : Nat) (S : St) (ts : List TypeId) (d s : AV) : Option (AV × St) :=
  match ts with
  | [] => none
  | t :: _ => match und P t with
    | some (.slice e) => match szo P e, alno d, alno s with
      | some es, some dn, some sn => match afst S.lk es (Nat.min sn dn) s with
        | some l => bif Nat.beq (Nat.min sn dn) 0 then (bif Nat.beq (len l) 0 then (match d with
            | .sl .. => some (.i .i64 (.ofNat 0), S)
            | .nsl => some (.i .i64 (.ofNat 0), S)
            | _ => none) else none)
          else match d with
            | .sl id off _ _ es' _ => bif Nat.beq es' es then (match asto g S id off l with
              | some S' => some (.i .i64 (.ofNat (Nat.min sn dn)), S')
              | none => none) else none
            | _ => none
        | none => none
      | _, _, _ => none
    | _ => none
theorem acpy_ok {g : Nat} {m : Map} {S S' : St} {w : World} (hR : R S.lk m w) {ts : List TypeId} {d s r : AV} {dv sv : Value} (h : acpy P g S ts d s = some (r, S')) (hd : cvo m d = some dv) (hs : cvo m s = some sv) (ty : TypeId) :
    ∃ w' v, (Builtin.copy_ ts.toArray ty #[dv, sv]).run P w = .ok v w' ∧ cvo m r = some v ∧ Step g m S.lk S.nx w m S'.lk S'.nx w' := by
  unfold acpy at h
  split at h
  · cases h
  rename_i t rest
  split at h
  rotate_left
  · cases h
  rename_i e ht
  split at h
  rotate_left
  · cases h
  rename_i es dn sn hes hdn hsn
  split at h
  rotate_left
  · cases h
  rename_i l hl
  obtain ⟨us, h1, h2, h3⟩ := afst_ok (P := P) hR ⟨sn, hsn, Nat.min_le_left _ _⟩ hl hs
  have hln := alno_ok (P := P) hsn hs w
  cases hb : Nat.beq (Nat.min sn dn) 0 with
  | true =>
    rw [hb, cond_true] at h
    rw [Nat.beq_eq] at hb
    cases hb2 : Nat.beq (len l) 0 with
    | false => rw [hb2] at h; cases h
    | true =>
    rw [hb2, cond_true] at h
    rw [Nat.beq_eq, len_eq] at hb2
    have hus : us = [] := List.eq_nil_of_length_eq_zero (by rw [cvs_length h1, hb2])
    subst hus
    have hb' : min sn dn = 0 := hb
    rw [hb'] at h2
    split at h
    · rename_i id off n cap es' pre
      obtain ⟨rfl, rfl⟩ := Prod.mk.inj (Option.some.inj h)
      simp only [alno, Option.some.injEq] at hdn
      simp only [cvo, Option.bind_eq_some_iff, Option.ite_none_right_eq_some, Option.some.injEq] at hd
      obtain ⟨L, hL, ⟨g1, g2, g3⟩, rfl⟩ := hd
      subst hdn
      refine ⟨w, _, ?_, rfl, Step.refl hR⟩
      have h2' : (Builtin.firstCells es (min sn n) sv).run P w = .ok #[] w := by rw [hb']; exact h2
      simp [Builtin.copy_, run_und ht, hln, run_szo hes, h2', storeCells, goInt]
      simp only [Nat.min_def] at hb
      split at hb <;> omega
    · obtain ⟨rfl, rfl⟩ := Prod.mk.inj (Option.some.inj h)
      simp only [alno, Option.some.injEq] at hdn
      simp only [cvo, Option.some.injEq] at hd
      subst hd hdn
      refine ⟨w, _, ?_, rfl, Step.refl hR⟩
      simp [Builtin.copy_, run_und ht, hln, run_szo hes, h2, goInt]
    · cases h
  | false =>
    rw [hb, cond_false] at h
    rw [Bool.eq_false_iff, Ne, Nat.beq_eq] at hb
    split at h
    · rename_i id off n cap es' pre
      cases hb2 : Nat.beq es' es with
      | false => rw [hb2] at h; cases h
      | true =>
      rw [hb2, cond_true] at h
      rw [Nat.beq_eq] at hb2; subst hb2
      split at h
      · rename_i S1 hS1
        obtain ⟨rfl, rfl⟩ := Prod.mk.inj (Option.some.inj h)
        simp only [alno, Option.some.injEq] at hdn
        simp only [cvo, Option.bind_eq_some_iff, Option.ite_none_right_eq_some, Option.some.injEq] at hd
        obtain ⟨L, hL, ⟨g1, g2, g3⟩, rfl⟩ := hd
        subst hdn
        have hc0 : cap.getD ((L.e - off) / es') ≠ 0 := by have := Nat.min_le_right sn n; simp only [Nat.min_def] at hb this; omega
        obtain ⟨w', q1, q2⟩ := asto_ok (P := P) hR hS1 h1 hL
        refine ⟨w', _, ?_, rfl, q2⟩
        rw [if_neg hc0, Nat.sub_zero]
        simp [Builtin.copy_, run_und ht, hln, run_szo hes, h2, goInt, q1]
      · cases h
    · cases h

/-! maps -/
def asb1 : AV → AV → Bool
  | .b x, .b y => x == y
  | .i k a, .i k' b => keq k k' && ieq a b
  | .s n x, .s k y => Nat.beq n k && Nat.beq x y
  | _, _ => false
def asbs : List AV → List AV → Bool
  | [], [] => true
  | a :: l, b :: k => asb1 a b && asbs l k
  | _, _ => false
def asb : AV → AV → Bool
  | .ag l, .ag k => asbs l k
  | a, b => asb1 a b
theorem asb1_ok {m : Map} {a b : AV} {u v : Value} (h : asb1 a b = true) (ha : cvo m a = some u) (hb : cvo m b = some v) (n : Nat) : Instr.sameBits n u v = true := by
  unfold asb1 at h
  split at h
  all_goals try simp only [cvo, Option.ite_none_right_eq_some, Option.some.injEq] at ha hb
  · subst ha hb; cases n <;> simpa [Instr.sameBits] using h
  · subst ha hb
    rw [Bool.and_eq_true] at h
    have := keq_eq h.1; subst this
    rw [ieq_eq] at h
    cases n <;> simpa [Instr.sameBits] using h.2
  · obtain ⟨_, rfl⟩ := ha
    obtain ⟨_, rfl⟩ := hb
    rw [Bool.and_eq_true, Nat.beq_eq, Nat.beq_eq] at h
    obtain ⟨rfl, rfl⟩ := h
    cases n <;> simp [Instr.sameBits, beq_toListBytes]
  · cases h
theorem asbs_ok {m : Map} (n : Nat) : ∀ {l k : List AV} {us vs : List Value}, asbs l k = true → cvs m l = some us → cvs m k = some vs → us.length = vs.length ∧ ((us.zip vs).all fun (x, y) => Instr.sameBits n x y) = true
  | [], [], us, vs, _, hl, hk => by simp [cvs] at hl hk; subst hl hk; exact ⟨rfl, rfl⟩
  | a :: l, b :: k, us, vs, h, hl, hk => by
    obtain ⟨u, us', h1, h2, rfl⟩ := cvs_cons.1 hl
    obtain ⟨v, vs', h3, h4, rfl⟩ := cvs_cons.1 hk
    simp only [asbs, Bool.and_eq_true] at h
    obtain ⟨e1, e2⟩ := asbs_ok n h.2 h2 h4
    refine ⟨by simp [e1], ?_⟩
    simp only [List.zip_cons_cons, List.all_cons, Bool.and_eq_true]
    exact ⟨asb1_ok h.1 h1 h3 n, e2⟩
  | [], _ :: _, _, _, h, _, _ => by cases h
  | _ :: _, [], _, _, h, _, _ => by cases h
theorem asb_ok {m : Map} {a b : AV} {u v : Value} (h : asb a b = true) (ha : cvo m a = some u) (hb : cvo m b = some v) (w : World) : (Instr.keyThatStays u v).run P w = .ok v w := by
  have : Instr.sameBits 10000 u v = true := by
    unfold asb at h
    split at h
    · simp only [cvo, Option.map_eq_some_iff] at ha hb
      obtain ⟨us, h1, rfl⟩ := ha
      obtain ⟨vs, h2, rfl⟩ := hb
      obtain ⟨e1, e2⟩ := asbs_ok 9999 h h1 h2
      simp only [Instr.sameBits, List.size_toArray, e1, beq_self_eq_true, Bool.true_and]
      exact e2
    · exact asb1_ok h ha hb _
  simp [Instr.keyThatStays, this]
def lset {α : Type} (x : α) (l : List α) : Nat → List α := List.rec (fun _ => []) (fun a l ih n => Nat.rec (x :: l) (fun k _ => a :: ih k) n) l
theorem lset_eq {α : Type} (x : α) : ∀ (l : List α) (n : Nat), lset x l n = l.set n x
  | [], n => by simp [lset]
  | a :: l, 0 => rfl
  | a :: l, n + 1 => by rw [List.set_cons_succ, ← lset_eq x l n]; rfl
theorem f2_set {α β : Type} {r : α → β → Prop} {a : α} {b : β} (h : r a b) : ∀ {l : List α} {k : List β} (n : Nat), F2 r l k → F2 r (l.set n a) (k.set n b)
  | _, _, n, .nil => by simp; exact .nil
  | _, _, 0, .cons h1 h2 => .cons h h2
  | _, _, n + 1, .cons h1 h2 => .cons h1 (f2_set h n h2)
theorem f2_append {α β : Type} {r : α → β → Prop} {a : α} {b : β} (h : r a b) : ∀ {l : List α} {k : List β}, F2 r l k → F2 r (l ++ [a]) (k ++ [b])
  | _, _, .nil => .cons h .nil
  | _, _, .cons h1 h2 => .cons h1 (f2_append h h2)
theorem f2_get {α β : Type} {r : α → β → Prop} : ∀ {l : List α} {k : List β} {n : Nat} {a : α}, F2 r l k → l[n]? = some a → ∃ b, k[n]? = some b ∧ r a b
  | _, _, n, a, .nil, h => by simp at h
  | _, _, 0, a, .cons h1 h2, h => by simp at h; subst h; exact ⟨_, rfl, h1⟩
  | _, _, n + 1, a, .cons h1 h2, h => by
    rw [List.getElem?_cons_succ] at h
    obtain ⟨b, h3, h4⟩ := f2_get h2 h
    exact ⟨b, by rw [List.getElem?_cons_succ]; exact h3, h4⟩
theorem only_obj {w : World} {b : Nat} {o o' : Obj} (h : w.heap[b]? = some o) : Only w { w with heap := w.heap.setIfInBounds b o' } b ∧ ({ w with heap := w.heap.setIfInBounds b o' } : World).heap[b]? = some o' := by
  obtain ⟨h1, h2⟩ := MapKept.heap_set (w := w) (o' := o') h
  exact ⟨⟨rfl, rfl, rfl, by simp, h2⟩, h1⟩
/-- a map is another -/
theorem map_put {g : Nat} {m : Map} {S : St} {w : World} (hR : R S.lk m w) {id : Nat} {es es2 : List (AV × AV × Nat)} {ck ck2 : Nat} {es2' : Array MapEntry} {L : Loc} (hg : g ≤ id) (hlk : S.h.get id = some (.map es ck)) (hL : m id = some L) (hE : F2 (EntOk m) es2 es2'.toList) :
    Step g m S.lk S.nx w m ((S.h.put (some (.map es2 ck2)) id).get) S.nx { w with heap := w.heap.setIfInBounds L.b (.map es2' ck2) } := by
  obtain ⟨L', es', h1, h2, h3⟩ := hR.holds _ _ hlk
  obtain rfl := Option.some.inj (hL.symm.trans h1)
  obtain ⟨f1, f2⟩ := only_obj (o' := .map es2' ck2) h2
  exact Step.put (blk := .map es2 ck2) hR hg hlk hL f1.block f1.size rfl rfl rfl (fun j b hj => T.get_put _ _ _ _ hj) (fun j hj => T.get_put_ne _ _ _ _ hj) ⟨L, es2', hL, f2, hE⟩
def amup (P : Program) (g : Nat) (S : St) (t : TypeId) (a k v : AV) : Option St :=
  match und P t, a with
  | some (.map kt _), .mp id => match und P kt, S.h.get id with
    | some d, some (.map es ck) => bif ack P d k && Nat.ble g id then (match afnd P kt d k es 0 with
      | some (some (j, _)) => match nth es j with
        | some e => bif asb e.1 k then some ⟨S.h.put (some (.map (lset (k, v, e.2.2) es j) ck)) id, S.nx⟩ else none
        | none => none
      | some none => some ⟨S.h.put (some (.map (es ++ [(k, v, ck)]) (Nat.succ ck))) id, S.nx⟩
      | none => none) else none
    | _, _ => none
  | _, _ => none
theorem modify_set (es : Array MapEntry) (j : Nat) (f : MapEntry → MapEntry) {e : MapEntry} (h : es[j]? = some e) : (es.modify j f).toList = es.toList.set j (f e) := by
  apply List.ext_getElem?
  intro i
  have hlt := (Array.getElem?_eq_some_iff.1 h).1
  rw [Array.getElem?_toList, Array.getElem?_modify, List.getElem?_set]
  by_cases e1 : j = i
  · subst e1; simp [hlt, (Array.getElem?_eq_some_iff.1 h).2]
  · simp [e1]
theorem amup_ok {g : Nat} {m : Map} {S S' : St} {w : World} (hR : R S.lk m w) {t : TypeId} {a k v : AV} {av kv vv : Value} (h : amup P g S t a k v = some S') (ha : cvo m a = some av) (hk : cvo m k = some kv) (hv : cvo m v = some vv) :
    ∃ w', (Instr.mapUpdate t av kv vv).run P w = .ok () w' ∧ Step g m S.lk S.nx w m S'.lk S'.nx w' := by
  unfold amup at h
  split at h
  rotate_left
  · cases h
  rename_i kt et id ht
  split at h
  rotate_left
  · cases h
  rename_i d es ck hd hlk
  cases hb : (ack P d k && Nat.ble g id) with
  | false => rw [hb] at h; cases h
  | true =>
  rw [hb, cond_true] at h
  rw [Bool.and_eq_true, Nat.ble_eq] at hb
  obtain ⟨L, es', h1, h2, h3⟩ := hR.holds _ _ hlk
  simp only [cvo, h1, Option.map_some, Option.some.injEq] at ha
  subst ha
  split at h
  · rename_i j v0 hf
    obtain ⟨r', f0, f⟩ := fnd_ok hd hk w h3 hf
    rcases f with ⟨hh, _⟩ | ⟨j', a', v', hh, rfl, _⟩
    · cases hh
    obtain ⟨rfl, rfl⟩ := Prod.mk.inj (Option.some.inj hh)
    split at h
    · rename_i e he
      cases hs : asb e.1 k with
      | false => rw [hs] at h; cases h
      | true =>
      rw [hs, cond_true] at h
      obtain rfl := Option.some.inj h
      rw [nth_eq] at he
      obtain ⟨e', he', hE⟩ := f2_get h3 he
      rw [Array.getElem?_toList] at he'
      refine ⟨_, ?_, map_put hR hb.2 hlk h1 (es2' := es'.modify j (fun e => { e with key := kv, val := vv })) ?_⟩
      · have := asb_ok (P := P) hs hE.1 hk w
        simp [Instr.mapUpdate, run_und ht, MapKept.run_getObj_map h2, checkKey_ok hd hb.1 hk, f0, he', this, MapKept.run_setObj_map _ h2]
      · rw [lset_eq, modify_set _ _ _ he']
        exact f2_set ⟨hk, hv, hE.2.2⟩ j h3
    · cases h
  · rename_i hf
    obtain ⟨r', f0, f⟩ := fnd_ok hd hk w h3 hf
    rcases f with ⟨_, rfl⟩ | ⟨_, _, _, hh, _⟩
    · obtain rfl := Option.some.inj h
      refine ⟨_, ?_, map_put hR hb.2 hlk h1 (es2' := es'.push { key := kv, val := vv, born := ck }) ?_⟩
      · simp [Instr.mapUpdate, run_und ht, MapKept.run_getObj_map h2, checkKey_ok hd hb.1 hk, f0, MapKept.run_setObj_map _ h2]
      · rw [Array.toList_push]
        exact f2_append ⟨hk, hv, rfl⟩ h3
    · cases hh
  · cases h
def amen (P : Program) (g : Nat) (S : St) (t : TypeId) (a k : AV) : Option (AV × St) :=
  match und P t, a with
  | some (.map kt et), .mp id => match und P kt, S.h.get id with
    | some d, some (.map es ck) => bif ack P d k && Nat.ble g id then (match afnd P kt d k es 0 with
      | some (some (j, v0)) => match nth es j with
        | some e => bif asb e.1 k then some (.tp [v0, .i .i64 (.ofNat e.2.2)], ⟨S.h.put (some (.map (lset (k, v0, e.2.2) es j) ck)) id, S.nx⟩) else none
        | none => none
      | some none => match zero P et with
        | some z => some (.tp [z, .i .i64 (.ofNat ck)], ⟨S.h.put (some (.map (es ++ [(k, z, ck)]) (Nat.succ ck))) id, S.nx⟩)
        | none => none
      | none => none) else none
    | _, _ => none
  | _, _ => none
theorem amen_ok {g : Nat} {m : Map} {S S' : St} {w : World} (hR : R S.lk m w) {t : TypeId} {a k r : AV} {av kv : Value} (h : amen P g S t a k = some (r, S')) (ha : cvo m a = some av) (hk : cvo m k = some kv) :
    ∃ w' v, (Instr.mapEntry t av kv).run P w = .ok v w' ∧ cvo m r = some v ∧ Step g m S.lk S.nx w m S'.lk S'.nx w' := by
  unfold amen at h
  split at h
  rotate_left
  · cases h
  rename_i kt et id ht
  split at h
  rotate_left
  · cases h
  rename_i d es ck hd hlk
  cases hb : (ack P d k && Nat.ble g id) with
  | false => rw [hb] at h; cases h
  | true =>
  rw [hb, cond_true] at h
  rw [Bool.and_eq_true, Nat.ble_eq] at hb
  obtain ⟨L, es', h1, h2, h3⟩ := hR.holds _ _ hlk
  simp only [cvo, h1, Option.map_some, Option.some.injEq] at ha
  subst ha
  split at h
  · rename_i j v0 hf
    obtain ⟨r', f0, f⟩ := fnd_ok hd hk w h3 hf
    rcases f with ⟨hh, _⟩ | ⟨j', a', v', hh, rfl, hv', e0, q1, q2⟩
    · cases hh
    obtain ⟨rfl, rfl⟩ := Prod.mk.inj (Option.some.inj hh)
    split at h
    · rename_i e he
      cases hs : asb e.1 k with
      | false => rw [hs] at h; cases h
      | true =>
      rw [hs, cond_true] at h
      obtain ⟨rfl, rfl⟩ := Prod.mk.inj (Option.some.inj h)
      rw [nth_eq] at he
      obtain rfl := Option.some.inj (he.symm.trans q1)
      obtain ⟨e', he', hE⟩ := f2_get h3 he
      rw [Array.getElem?_toList] at he'
      have hval : cvo m v0 = some e'.val := q2 ▸ hE.2.1
      refine ⟨_, .tuple #[v', goInt (e'.born : Int)], ?_, ?_, map_put hR hb.2 hlk h1 (es2' := es'.modify j (fun e => { e with key := kv })) ?_⟩
      · have := asb_ok (P := P) hs hE.1 hk w
        simp [Instr.mapEntry, run_und ht, MapKept.run_getObj_map h2, checkKey_ok hd hb.1 hk, f0, he', this, MapKept.run_setObj_map _ h2]
      · have e3 : (Int.ofNat e.2.2) = (e'.born : Int) := by rw [hE.2.2]; rfl
        simp [cvo, cvs, hv', goInt, hE.2.2]
      · rw [lset_eq, modify_set _ _ _ he']
        exact f2_set ⟨hk, hval, hE.2.2⟩ j h3
    · cases h
  · rename_i hf
    obtain ⟨r', f0, f⟩ := fnd_ok hd hk w h3 hf
    rcases f with ⟨_, rfl⟩ | ⟨_, _, _, hh, _⟩
    · split at h
      · rename_i z hz
        obtain ⟨rfl, rfl⟩ := Prod.mk.inj (Option.some.inj h)
        obtain ⟨zv, hzv, hrz⟩ := zero_ok hz m
        refine ⟨_, .tuple #[zv, goInt (ck : Int)], ?_, ?_, map_put hR hb.2 hlk h1 (es2' := es'.push { key := kv, val := zv, born := ck }) ?_⟩
        · simp [Instr.mapEntry, run_und ht, MapKept.run_getObj_map h2, checkKey_ok hd hb.1 hk, f0, MapKept.run_setObj_map _ h2, hrz]
        · simp [cvo, cvs, hzv, goInt]
        · rw [Array.toList_push]
          exact f2_append ⟨hk, hzv, rfl⟩ h3
      · cases h
    · cases hh
  · cases h
def aborn (n : Nat) : List (AV × AV × Nat) → Nat → Option Nat
  | [], _ => none
  | e :: es, i => bif Nat.beq e.2.2 n then some i else aborn n es (Nat.succ i)
theorem aborn_ok {m : Map} (n : Nat) : ∀ {es : List (AV × AV × Nat)} {es' : List MapEntry} {i j : Nat}, F2 (EntOk m) es es' → aborn n es i = some j → i ≤ j ∧ es'.findIdx? (fun e => (e.born : Int) == (n : Int)) = some (j - i) ∧ ∃ e, es[j - i]? = some e
  | _, _, i, j, .nil, h => by simp [aborn] at h
  | e :: es, e' :: es', i, j, .cons h1 h2, h => by
    simp only [aborn] at h
    cases hb : Nat.beq e.2.2 n with
    | true =>
      rw [hb, cond_true] at h
      rw [Nat.beq_eq] at hb
      obtain rfl := Option.some.inj h
      refine ⟨Nat.le_refl _, ?_, e, by simp⟩
      rw [List.findIdx?_cons]
      simp [h1.2.2, hb]
    | false =>
      rw [hb, cond_false] at h
      rw [Bool.eq_false_iff, Ne, Nat.beq_eq] at hb
      obtain ⟨q1, q2, e0, q3⟩ := aborn_ok n h2 h
      refine ⟨by omega, ?_, e0, ?_⟩
      · rw [List.findIdx?_cons]
        have : ((e'.born : Int) == (n : Int)) = false := by
          rw [h1.2.2, beq_eq_false_iff_ne]; intro h; exact hb (by omega)
        rw [this, q2]
        simp; omega
      · rw [show j - i = (j - (i + 1)) + 1 by omega, List.getElem?_cons_succ]; exact q3
def aest (g : Nat) (S : St) (a st v : AV) : Option St :=
  match a, st with
  | .mp id, .i _ (.ofNat n) => match S.h.get id with
    | some (.map es ck) => bif Nat.ble g id then (match aborn n es 0 with
      | some j => match nth es j with
        | some e => some ⟨S.h.put (some (.map (lset (e.1, v, e.2.2) es j) ck)) id, S.nx⟩
        | none => none
      | none => none) else none
    | _ => none
  | _, _ => none
theorem aest_ok {g : Nat} {m : Map} {S S' : St} {w : World} (hR : R S.lk m w) {t : TypeId} {a st v : AV} {av sv vv : Value} (h : aest g S a st v = some S') (ha : cvo m a = some av) (hs : cvo m st = some sv) (hv : cvo m v = some vv) :
    ∃ w', (Instr.entryStore t av sv vv).run P w = .ok () w' ∧ Step g m S.lk S.nx w m S'.lk S'.nx w' := by
  unfold aest at h
  split at h
  rotate_left
  · cases h
  rename_i id k n
  split at h
  rotate_left
  · cases h
  rename_i es ck hlk
  cases hb : Nat.ble g id with
  | false => rw [hb] at h; cases h
  | true =>
  rw [hb, cond_true] at h
  rw [Nat.ble_eq] at hb
  obtain ⟨L, es', h1, h2, h3⟩ := hR.holds _ _ hlk
  simp only [cvo, h1, Option.map_some, Option.some.injEq] at ha hs
  subst ha hs
  split at h
  · rename_i j hj
    obtain ⟨_, q2, _⟩ := aborn_ok n h3 hj
    split at h
    · rename_i e he
      obtain rfl := Option.some.inj h
      rw [nth_eq] at he
      obtain ⟨e', he', hE⟩ := f2_get h3 he
      rw [Array.getElem?_toList] at he'
      refine ⟨_, ?_, map_put hR hb hlk h1 (es2' := es'.modify j (fun e => { e with val := vv })) ?_⟩
      · have q3 : es'.findIdx? (fun e => (e.born : Int) == (n : Int)) = some j := by
          obtain ⟨l⟩ := es'; rw [List.findIdx?_toArray]; simpa using q2
        simp [Instr.entryStore, MapKept.run_getObj_map h2, asInt, asIntOf, q3, MapKept.run_setObj_map _ h2]
      · rw [lset_eq, modify_set _ _ _ he']
        exact f2_set ⟨hE.1, hv, hE.2.2⟩ j h3
    · cases h
  · cases h
end
end Am
