/- A machine for closed runs: regions in order, calls, code. No program in sight. -/
import Derived.Test.YtbeageacgalhiaaGreatDoorAmV
set_option linter.unusedVariables false
set_option linter.unusedSimpArgs false
namespace Am
open Go
noncomputable section
variable {P : Program} {K : Known}

theorem aibs_find (c : Nat) (hc : c < 256) : ∀ (n x i : Nat), aibs c n x i = match (List.range n).find? (fun j => (unp n x)[j]! == UInt8.ofNat c) with
    | some j => ((i + j : Nat) : Int)
    | none => -1
  | 0, x, i => rfl
  | n + 1, x, i => by
    have hstep : aibs c (n + 1) x i = bif Nat.beq (Nat.mod x 256) c then Int.ofNat i else aibs c n (Nat.div x 256) (Nat.succ i) := rfl
    have ih := aibs_find c hc n (x / 256) (Nat.succ i)
    have e0 : (unp (n + 1) x)[0]! = UInt8.ofNat (x % 256) := rfl
    have es : ∀ j, (unp (n + 1) x)[j + 1]! = (unp n (x / 256))[j]! := fun j => rfl
    rw [hstep, List.range_succ_eq_map, List.find?_cons, e0]
    by_cases h : x % 256 = c
    · have hb : Nat.beq (Nat.mod x 256) c = true := by rw [Nat.beq_eq]; exact h
      rw [hb, h]; simp
    · have hb : Nat.beq (Nat.mod x 256) c = false := by rw [Bool.eq_false_iff, Ne, Nat.beq_eq]; exact h
      have hne : (UInt8.ofNat (x % 256) == UInt8.ofNat c) = false := by
        rw [beq_eq_false_iff_ne]
        intro he
        have := congrArg UInt8.toNat he
        simp only [UInt8.toNat_ofNat'] at this
        omega
      rw [hb, hne, cond_false]
      have e1 : aibs c n (Nat.div x 256) (Nat.succ i) = aibs c n (x / 256) (Nat.succ i) := rfl
      rw [e1, ih, List.find?_map]
      have hp : ((fun j => (unp (n + 1) x)[j]! == UInt8.ofNat c) ∘ Nat.succ) = (fun j => (unp n (x / 256))[j]! == UInt8.ofNat c) := by
        funext j; exact congrArg (· == UInt8.ofNat c) (es j)
      rw [hp]
      cases (List.range n).find? (fun j => (unp n (x / 256))[j]! == UInt8.ofNat c) with
      | none => rfl
      | some j =>
        show ((Nat.succ i + j : Nat) : Int) = ((i + Nat.succ j : Nat) : Int)
        congr 1; omega
theorem mz_digits : ∀ (n t : Nat) (acc : Array Value), (Extern.BytealgMakeNoZero.digits n t acc).size = acc.size + n
  | 0, t, acc => rfl
  | n + 1, t, acc => by rw [Extern.BytealgMakeNoZero.digits, mz_digits n]; simp; omega
theorem aextern_ok (hK : KnownOk P K) {m : Map} {S S' : St} {w : World} (hR : R S.lk m w) (hf : Fre m S.nx S'.nx) {f : FuncId} {as : List AV} {args : List Value} {r : AV} (he : K.enter f = false) (h : aextern P K S (K.ext f) as = some (r, S')) (ha : cvs m as = some args) :
    ∃ m' w' v, (callFunc f args.toArray).run P w = .ok (.value v) w' ∧ cvo m' r = some v ∧ Step K.g m S.lk S.nx w m' S'.lk S'.nx w' := by
  unfold aextern at h
  split at h
  · rename_i n x c hk
    cases hb : Nat.blt c 256 with
    | false => rw [hb] at h; cases h
    | true =>
    rw [hb, cond_true] at h
    rw [blt_iff] at hb
    obtain ⟨rfl, rfl⟩ := Prod.mk.inj (Option.some.inj h)
    obtain ⟨v1, vs1, h1, h2, rfl⟩ := cvs_cons.1 ha
    obtain ⟨v2, vs2, h3, h4, rfl⟩ := cvs_cons.1 h2
    simp [cvs] at h4; subst h4
    simp only [cvo, Option.ite_none_right_eq_some, Option.some.injEq] at h1 h3
    obtain ⟨hx, rfl⟩ := h1
    subst h3
    refine ⟨m, w, _, ?_, rfl, Step.refl hR⟩
    rw [hK.ext1 f he hk]
    have hsz : (ByteArray.mk (unp n x).toArray).size = n := by simp [ByteArray.size, unp_length]
    have hget : ∀ i : Nat, (ByteArray.mk (unp n x).toArray)[i]! = (unp n x)[i]! := by
      intro i
      by_cases hi : i < n
      · have h5 : i < (ByteArray.mk (unp n x).toArray).size := by rw [hsz]; exact hi
        have h6 : i < (unp n x).length := by rw [unp_length]; exact hi
        rw [getElem!_pos (ByteArray.mk (unp n x).toArray) i h5, getElem!_pos (unp n x) i h6]
        rfl
      · have h5 : ¬ i < (ByteArray.mk (unp n x).toArray).size := by rw [hsz]; exact hi
        have h6 : ¬ i < (unp n x).length := by rw [unp_length]; exact hi
        rw [getElem!_neg (ByteArray.mk (unp n x).toArray) i h5, getElem!_neg (unp n x) i h6]
    have key : (Extern.BytealgIndexByte.indexByte [Value.string ⟨(unp n x).toArray⟩, Value.int .u8 (Int.ofNat c)].toArray) = (match (List.range (ByteArray.mk (unp n x).toArray).size).find? (fun i => (ByteArray.mk (unp n x).toArray)[i]! == (Int.ofNat c).toNat.toUInt8) with
      | some i => pure (goInt i)
      | none => pure (goInt (-1)) : Sem Value) := rfl
    rw [key]
    have hfind := aibs_find c hb n x 0
    have hpred : (fun i : Nat => (ByteArray.mk (unp n x).toArray)[i]! == (Int.ofNat c).toNat.toUInt8) = (fun j : Nat => (unp n x)[j]! == UInt8.ofNat c) := by
      funext i; rw [hget]; rfl
    rw [hsz, hpred, hfind]
    cases (List.range n).find? (fun j => (unp n x)[j]! == UInt8.ofNat c) with
    | none => rfl
    | some j => simp [goInt]
  · rename_i a hk
    obtain ⟨rfl, rfl⟩ := Prod.mk.inj (Option.some.inj h)
    obtain ⟨v1, vs1, h1, h2, rfl⟩ := cvs_cons.1 ha
    simp [cvs] at h2; subst h2
    refine ⟨m, w, v1, ?_, h1, Step.refl hR⟩
    rw [hK.ext2 f he hk]
    rfl
  · rename_i n hk
    split at h
    rotate_left
    · cases h
    rename_i e ht
    cases hb : (Nat.ble K.g S.nx && Nat.ble n 1073741824) with
    | false => rw [hb] at h; cases h
    | true =>
    rw [hb, cond_true] at h
    rw [Bool.and_eq_true, Nat.ble_eq, Nat.ble_eq] at hb
    obtain ⟨rfl, rfl⟩ := Prod.mk.inj (Option.some.inj h)
    have hm : m S.nx = none := hf S.nx (Nat.le_refl _) (Nat.lt_succ_self _)
    obtain ⟨v1, vs1, h1, h2, rfl⟩ := cvs_cons.1 ha
    simp [cvs] at h2; subst h2
    simp only [cvo, Option.some.injEq] at h1; subst h1
    obtain ⟨ps, rs, hrs, hrun⟩ := hK.ext3 f he hk
    obtain ⟨cap, hcap⟩ : ∃ cap, cap = Question.cut (.appendCap n 0 e) (w.tape w.drawn (.appendCap n 0 e)) := ⟨_, rfl⟩
    have hge : n ≤ cap := by rw [hcap]; simp only [Question.cut]; omega
    obtain ⟨by_, hby⟩ : ∃ b, b = Question.cut (.extern "internal/bytealg.MakeNoZero.bytes" 0) (w.tape (w.drawn + 1) (.extern "internal/bytealg.MakeNoZero.bytes" 0)) := ⟨_, rfl⟩
    refine ⟨mset m S.nx ⟨w.heap.size, 0, cap⟩, w.drew.drew.alloc (.cells (Extern.BytealgMakeNoZero.digits cap by_ #[]) e), .slice (some ⟨w.heap.size, 0, none⟩) n cap, ?_, ?_, ?_⟩
    · rw [hrun]
      have key : Extern.BytealgMakeNoZero.makeNoZero ps rs [Value.int .i64 (Int.ofNat n)].toArray = (do
        let some t := rs[0]? | stuck "bytealg.MakeNoZero: no result type"
        let .slice elem ← underlying t | stuck "bytealg.MakeNoZero: slice type expected"
        if (Int.ofNat n) < 0 || (Int.ofNat n) > 2 ^ 48 then runtimePanic (.error "makeslice: len out of range")
        let cap ← choose (.appendCap (Int.ofNat n).toNat 0 elem)
        askRoom cap
        let bytes ← choose (.extern "internal/bytealg.MakeNoZero.bytes" 0)
        let a ← newRow elem (Extern.BytealgMakeNoZero.digits cap bytes #[])
        pure (.slice (some a) (Int.ofNat n).toNat cap)) := rfl
      rw [key]
      have hc : (decide ((Int.ofNat n) < 0) || decide ((Int.ofNat n) > 2 ^ 48)) = false := by
        rw [Bool.or_eq_false_iff]
        exact ⟨decide_eq_false (by simp), decide_eq_false (by simp only [Int.ofNat_eq_natCast]; omega)⟩
      have hn0 : (Int.ofNat n).toNat = n := rfl
      simp only [hrs, Sem.run_bind, run_und ht, Result.andThen_ok, hc, Bool.false_eq_true, if_false, Sem.run_pure, hn0, run_choose, Question.forced, ← hcap, run_askRoom, newRow, run_newObj]
      simp only [show decide ((0 : Nat) = 1) = false from rfl, Bool.false_eq_true, if_false, Result.andThen_ok, ← hby]
      rfl
    · simp only [cvo, mset_self, Option.bind_some, Option.getD_none, Nat.sub_zero, Nat.div_one]
      rw [if_pos ⟨hge, by omega, by omega⟩]
      by_cases e0 : cap = 0 <;> simp [e0]
    · refine Step.new (blk := .cells e [] 0 false) hR hb.1 hm rfl rfl rfl rfl (fun j b hj => T.get_put _ _ _ _ hj) (fun j hj => T.get_put_ne _ _ _ _ hj) ?_
      refine ⟨_, Extern.BytealgMakeNoZero.digits cap by_ #[], (0, 0), [], mset_self _ _ _, (by show (w.heap.push _)[w.heap.size]? = _; simp), by rw [mz_digits]; simp, by simp, rfl, fun i v hv => by simp at hv, fun i _ _ hh => by simp at hh, fun h => by cases h⟩
  · cases h
end
end Am
