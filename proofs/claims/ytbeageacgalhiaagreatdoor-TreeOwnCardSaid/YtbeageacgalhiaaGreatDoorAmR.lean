/- A machine for closed runs: bytes and texts, iterators. No program in sight. -/
import Derived.Test.YtbeageacgalhiaaGreatDoorAmQ
set_option linter.unusedVariables false
set_option linter.unusedSimpArgs false
namespace Am
open Go
noncomputable section
variable {P : Program}

/-- a block is let go, and is another -/
theorem Step.drop {g : Nat} {m : Map} {lk lk' : Lk} {nx id : Nat} {w w' : World} {blk0 : Blk} {L : Loc} (hR : R lk m w) (hg : g ≤ id) (h0 : lk id = some blk0) (hL : m id = some L)
    (hw : ∀ k, k ≠ L.b → w'.heap[k]? = w.heap[k]?) (hs : w'.heap.size = w.heap.size) (e1 : w'.os = w.os) (e2 : w'.tape = w.tape) (e3 : w'.output = w.output)
    (hlk : ∀ j b, lk' j = some b → j ≠ id ∧ lk j = some b) (hlg : ∀ j, j ≠ id → lk' j = lk j) : Step g m lk nx w m lk' nx w' := by
  refine ⟨fun _ _ h => h, fun _ _ h => .inl h, Nat.le_refl _, ⟨?_, ?_⟩, e1, e2, e3, by omega, ?_, ?_, fun j b hj hb => by rw [← hlg j (by omega)]; exact hb, fun j b hj => .inl ⟨b, (hlk j b hj).2⟩⟩
  · intro j b hj
    obtain ⟨hne, hj'⟩ := hlk j b hj
    exact (hR.holds j b hj').mono (fun _ _ h => h) (fun K hK => hw _ fun e => hne (hR.inj j id b blk0 K L hj' h0 hK hL e))
  · intro j j' b b' K K' h1 h2 h3 h4 h5
    exact hR.inj j j' b b' K K' (hlk j b h1).2 (hlk j' b' h2).2 h3 h4 h5
  · intro k hk hn
    exact hw k fun e => hn id blk0 L hg h0 hL e.symm
  · intro j b K h1 h2 h3
    exact .inr ⟨j, b, K, h1, (hlk j b h2).2, h3, rfl⟩

/-! a text's bytes -/
def astb (P : Program) (g : Nat) (S : St) (s d : TypeId) (a : AV) : Option (AV × St) :=
  match und P s, und P d, a with
  | some _, some (.slice e), .s n x => match und P e with
    | some (.int .u8) => bif Nat.ble g S.nx then some (.sl S.nx 0 n none 1 0, ⟨S.h.put (some (.cells e (abyt n x) 0 false)) S.nx, Nat.succ S.nx⟩) else none
    | _ => none
  | _, _, _ => none
theorem astb_ok {g : Nat} {m : Map} {S S' : St} {w : World} (hR : R S.lk m w) (hf : Fre m S.nx S'.nx) {s d : TypeId} {a r : AV} {av : Value} (h : astb P g S s d a = some (r, S')) (ha : cvo m a = some av) :
    ∃ m' w' v, (convert s d av).run P w = .ok v w' ∧ cvo m' r = some v ∧ Step g m S.lk S.nx w m' S'.lk S'.nx w' := by
  unfold astb at h
  split at h
  rotate_left
  · cases h
  rename_i e n x hs hd
  split at h
  rotate_left
  · cases h
  rename_i he
  cases hb : Nat.ble g S.nx with
  | false => rw [hb] at h; cases h
  | true =>
  rw [hb, cond_true] at h
  rw [Nat.ble_eq] at hb
  obtain ⟨rfl, rfl⟩ := Prod.mk.inj (Option.some.inj h)
  have hm : m S.nx = none := hf S.nx (Nat.le_refl _) (Nat.lt_succ_self _)
  simp only [cvo, Option.ite_none_right_eq_some, Option.some.injEq] at ha
  obtain ⟨_, rfl⟩ := ha
  obtain ⟨cap, hcap⟩ : ∃ cap, cap = Question.cut (.appendCap n 0 e) (w.tape w.drawn (.appendCap n 0 e)) := ⟨_, rfl⟩
  have hge : n ≤ cap := by rw [hcap]; simp only [Question.cut]; omega
  obtain ⟨c, hc⟩ : ∃ c : Array Value, c = ((unp n x).map fun b => Value.int .u8 b.toNat).toArray ++ Array.replicate (cap - n) (.int .u8 0) := ⟨_, rfl⟩
  have hcs : c.size = cap := by rw [hc]; simp [unp_length]; omega
  have hsz : (ByteArray.mk (unp n x).toArray).size = n := by simp [ByteArray.size, unp_length]
  have helems : ((ByteArray.mk (unp n x).toArray).data.map fun b => Value.int .u8 b.toNat) = ((unp n x).map fun b => Value.int .u8 b.toNat).toArray := by simp
  have hrun : (convert s d (.string ⟨(unp n x).toArray⟩)).run P w = .ok (.slice (some ⟨w.heap.size, 0, none⟩) n cap) ((w.drew.alloc (.cells c e)).freeze ⟨w.heap.size, cap, none⟩ 1) := by
    simp only [convert, Sem.run_bind, run_und hs, run_und hd, run_und he, Result.andThen_ok, Conv.stringToBytes, run_choose, Question.forced, Bool.false_eq_true, if_false, hsz, ← hcap, helems, newRow, run_newObj, Sem.run_pure, ← hc]
    have hsh : ({ heap := w.heap.push (.cells c e), tape := w.tape, drawn := w.drawn + 1, os := w.os, output := w.output } : World).shape? w.heap.size = some (e, cap) := by
      simp [World.shape?, hcs]
    simp only [markStringish, Sem.run_bind, run_shape, hsh, Result.andThen_ok, run_freeze, Sem.run_pure]
    rfl
  have hheap : ((w.drew.alloc (.cells c e)).freeze ⟨w.heap.size, cap, none⟩ 1).heap = w.heap.push (.cells c e (cap, cap + 1)) := by
    simp only [World.freeze, World.alloc, World.drew]
    rw [if_neg (by omega)]
    apply Array.ext_getElem?
    intro k
    simp only [Array.getElem?_modify, Array.getElem?_push]
    by_cases e1 : w.heap.size = k
    · subst e1; simp
    · rw [if_neg e1, if_neg (fun h => e1 h.symm), if_neg (fun h => e1 h.symm)]
  have hcv := abyt_ok m n x
  have hext : Ext m (mset m S.nx ⟨w.heap.size, 0, cap⟩) := mset_ext hm
  refine ⟨mset m S.nx ⟨w.heap.size, 0, cap⟩, _, _, hrun, ?_, ?_⟩
  · simp only [cvo, mset_self, Option.bind_some, Option.getD_none, Nat.sub_zero, Nat.div_one]
    rw [if_pos ⟨hge, by omega, by omega⟩]
    by_cases e0 : cap = 0 <;> simp [e0]
  · refine Step.new (blk := .cells e (abyt n x) 0 false) hR hb hm hheap ?_ ?_ ?_ (fun j b hj => T.get_put _ _ _ _ hj) (fun j hj => T.get_put_ne _ _ _ _ hj) ?_
    · rfl
    · rfl
    · rfl
    · refine ⟨_, c, (cap, cap + 1), _, mset_self _ _ _, by rw [hheap]; simp, by simp [hcs], ?_, cvs_mono hext _ hcv, fun i v hv => ?_, fun i _ hi hh => ?_, fun h => by cases h⟩
      · rw [← cvs_length hcv]; simp [unp_length]; exact hge
      · have hlt : i < ((unp n x).map fun b => Value.int .u8 b.toNat).length := (List.getElem?_eq_some_iff.1 hv).1
        simp only [Nat.zero_add]
        rw [hc, Array.getElem?_append_left (by simpa using hlt)]
        simpa using hv
      · simp only at hi hh; omega

/-! bytes as a text -/
def apkb : List AV → Option Nat
  | [] => some 0
  | .i .u8 (.ofNat b) :: l => bif Nat.blt b 256 then (match apkb l with
    | some x => some (b + 256 * x)
    | none => none) else none
  | _ => none
theorem apkb_ok {m : Map} : ∀ {l : List AV} {vs : List Value} {x : Nat}, apkb l = some x → cvs m l = some vs → x < 256 ^ l.length ∧ vs = (unp l.length x).map (fun b => Value.int .u8 b.toNat)
  | [], vs, x, h, hl => by simp [apkb] at h; simp [cvs] at hl; subst h hl; exact ⟨by simp, rfl⟩
  | a :: l, vs, x, h, hl => by
    obtain ⟨v, vs', h1, h2, rfl⟩ := cvs_cons.1 hl
    unfold apkb at h
    split at h
    · rename_i heq; cases heq
    · rename_i b l' heq
      obtain ⟨rfl, rfl⟩ := List.cons.inj heq
      cases hb : Nat.blt b 256 with
      | false => rw [hb] at h; cases h
      | true =>
      rw [hb, cond_true] at h
      rw [blt_iff] at hb
      split at h
      · rename_i y hy
        obtain rfl := Option.some.inj h
        obtain ⟨f1, f2⟩ := apkb_ok hy h2
        simp only [cvo, Option.some.injEq] at h1
        subst h1
        have e1 : (b + 256 * y) % 256 = b := by omega
        have e2 : (b + 256 * y) / 256 = y := by omega
        refine ⟨by simp only [List.length_cons, Nat.pow_succ]; omega, ?_⟩
        simp only [List.length_cons, unp, List.map_cons, e1, e2, ← f2]
        congr 2
        simp [UInt8.toNat_ofNat']; omega
      · cases h
    · cases h
theorem fold_bytes : ∀ (l : List UInt8) (r : ByteArray), (l.map fun b => (b.toNat : Int)).foldl (fun r n => r.push (UInt8.ofNat n.toNat)) r = r ++ ⟨l.toArray⟩
  | [], r => by
    apply ByteArray.ext
    simp [ByteArray.data_append]
  | b :: l, r => by
    simp only [List.map_cons, List.foldl_cons, Int.toNat_natCast, UInt8.ofNat_toNat]
    rw [fold_bytes l]
    apply ByteArray.ext
    simp [ByteArray.data_append, ByteArray.data_push]
def abts (P : Program) (lk : Lk) (s d : TypeId) (a : AV) : Option AV :=
  match und P s, und P d, a with
  | some (.slice e), some .string, .nsl => match und P e with
    | some (.int .u8) => some (.s 0 0)
    | _ => none
  | some (.slice e), some .string, .sl id off n cap es pre => match und P e, afst lk 1 n (.sl id off n cap es pre) with
    | some (.int .u8), some l => match apkb l with
      | some x => some (.s n x)
      | none => none
    | _, _ => none
  | _, _, _ => none
theorem abts_ok {m : Map} {lk : Lk} {w : World} (hR : R lk m w) {s d : TypeId} {a r : AV} {v : Value} (h : abts P lk s d a = some r) (ha : cvo m a = some v) :
    ∃ z, cvo m r = some z ∧ (convert s d v).run P w = .ok z w := by
  unfold abts at h
  split at h
  · rename_i e hs hd
    split at h
    · rename_i he
      obtain rfl := Option.some.inj h
      simp only [cvo, Option.some.injEq] at ha; subst ha
      refine ⟨.string ⟨(unp 0 0).toArray⟩, by simp [cvo], ?_⟩
      simp only [convert, Sem.run_bind, run_und hs, run_und hd, run_und he, Result.andThen_ok, Conv.bytesToString, Sem.run_pure]
      rfl
    · cases h
  · rename_i e id off n cap es pre hs hd
    split at h
    · rename_i l he hl
      split at h
      · rename_i x hx
        obtain rfl := Option.some.inj h
        obtain ⟨us, h1, h2, h3⟩ := afst_ok (P := P) hR ⟨n, rfl, Nat.le_refl _⟩ hl ha
        obtain ⟨g1, g2⟩ := apkb_ok hx h1
        have hlen : l.length = n := by rw [← cvs_length h1, h3]; omega
        rw [hlen] at g1 g2
        refine ⟨.string ⟨(unp n x).toArray⟩, by simp only [cvo]; rw [if_pos g1], ?_⟩
        simp only [cvo, Option.bind_eq_some_iff, Option.ite_none_right_eq_some, Option.some.injEq] at ha
        obtain ⟨L, hL, _, rfl⟩ := ha
        have hload : ∀ (A : Addr) (c : Nat), (Builtin.firstCells 1 n (.slice (some A) n c)).run P w = .ok us.toArray w → (loadCells A n).run P w = .ok ((((unp n x).map fun b => (b.toNat : Int))).map (Value.int .u8)).toArray w := by
          intro A c hh
          have : (Builtin.firstCells 1 n (.slice (some A) n c)) = loadCells A (n * 1) := rfl
          rw [this, Nat.mul_one] at hh
          rw [hh, g2]; simp
        have hr := run_bytesToString w _ n (cap.getD ((L.e - off) / es)) _ (hload _ _ h2)
        simp only [convert, Sem.run_bind, run_und hs, run_und hd, run_und he, Result.andThen_ok]
        rw [hr, fold_bytes]
        congr 2
      · cases h
    · cases h
  · cases h
end
end Am
