/- A machine for closed runs: new blocks. No program in sight. -/
import Derived.Test.YtbeageacgalhiaaGreatDoorAmL
set_option linter.unusedVariables false
set_option linter.unusedSimpArgs false
namespace Am
open Go
noncomputable section
variable {P : Program}

def atile (z : List AV) (n : Nat) : List AV := Nat.rec [] (fun _ ih => z ++ ih) n
def vtile (z : List Value) : Nat → List Value
  | 0 => []
  | n + 1 => z ++ vtile z n
theorem atile_ok {m : Map} {z : List AV} {vs : List Value} (h : cvs m z = some vs) : ∀ n, cvs m (atile z n) = some (vtile vs n)
  | 0 => rfl
  | n + 1 => cvs_append h (atile_ok h n)
theorem vtile_length (z : List Value) : ∀ n, (vtile z n).length = n * z.length
  | 0 => by simp [vtile]
  | n + 1 => by simp only [vtile, List.length_append, vtile_length z n, Nat.succ_mul]; omega
theorem range_tile (z : Array Value) (h : 0 < z.size) : ∀ n, ((List.range (n * z.size)).map (fun i => z[i % z.size]!)) = vtile z.toList n
  | 0 => by simp [vtile]
  | n + 1 => by
    rw [Nat.succ_mul, Nat.add_comm, List.range_add, List.map_append, List.map_map, vtile]
    congr 1
    · apply List.ext_getElem
      · simp
      · intro i h1 h2
        simp only [List.length_map, List.length_range] at h1
        simp [Nat.mod_eq_of_lt h1, h1]
    · rw [← range_tile z h n]
      apply List.map_congr_left
      intro i _
      simp [Nat.add_mod_left]
theorem tile_eq (z : Array Value) (n s : Nat) (h : z.size = s) (h0 : 0 < s) : (Array.range (n * s)).map (fun i => z[i % z.size]!) = (vtile z.toList n).toArray := by
  subst h
  apply Array.ext'
  rw [Array.toList_map, Array.toList_range, range_tile z h0]

def aalloc (P : Program) (ρ : Rho) : Op → Option (Blk × (Nat → AV))
  | .alloc e => match zero P e with
    | some z => some (.cells e (cel z) 0 true, fun id => .p id 0)
    | none => none
  | .box e x => match ρ x with
    | some a => some (.cells e (cel a) 0 true, fun id => .p id 0)
    | none => none
  | .buildSlice t n ps => match und P t with
    | some (.slice e) => match szo P e, zero P e, aprt ρ ps.toList with
      | some s, some z, some l => bif (Nat.ble (n * s) 16777216 && !(Nat.beq s 0)) && Nat.beq (len (cel z)) s then
          match afill (fun i => some (i * s, s)) l (atile (cel z) n) with
          | some cs => some (.cells e cs 0 true, fun id => .sl id 0 n (some n) s 0)
          | none => none
        else none
      | _, _, _ => none
    | _ => none
  | .makeSlice t l c => match und P t with
    | some (.slice e) => match inf P e, zero P e, bd ρ l, bd ρ c with
      | some i, some z, some l, some c => bif ((Nat.ble l c && Nat.ble c 4294967296) && (Nat.ble (i.bytes * c) 281474976710656 && !(Nat.beq i.size 0))) && Nat.beq (len (cel z)) i.size then
          some (.cells e (atile (cel z) c) 0 true, fun id => .sl id 0 l (some c) i.size 0)
        else none
      | _, _, _, _ => none
    | _ => none
  | .makeMap t r => match und P t, r with
    | some (.map _ _), none => some (.map [] 0, fun id => .mp id)
    | some (.map _ _), some x => match bd ρ x with
      | some _ => some (.map [] 0, fun id => .mp id)
      | none => none
    | _, _ => none
  | _ => none

/-- what a new block is: object, cells -/
def NewIs (P : Program) (m : Map) (w : World) (run : World → Result Next) (blk : Blk) (f : Nat → AV) : Prop :=
  ∃ o e, ∀ (m' : Map) (nx : Nat) (w w' : World), Ext m m' → m' nx = some ⟨w.heap.size, 0, e⟩ → w'.heap = w.heap.push o → Holds m' w' nx blk ∧ ∃ u, cvo m' (f nx) = some u ∧ run w = .ok (.value u) (w.alloc o)
theorem holds_new {m m' : Map} {cs : List AV} {vs : List Value} {t : TypeId} {nx : Nat} {w w' : World} (h : cvs m cs = some vs) (he : Ext m m') (hm : m' nx = some ⟨w.heap.size, 0, vs.length⟩) (hw : w'.heap = w.heap.push (.cells vs.toArray t)) :
    Holds m' w' nx (.cells t cs 0 true) := by
  refine ⟨_, vs.toArray, (0, 0), vs, hm, by rw [hw]; simp, by simp, by rw [cvs_length h]; exact Nat.le_refl _, cvs_mono he _ h, fun i v hv => by simpa using hv, fun i _ _ hh => by simp at hh, fun _ => ⟨rfl, by simp [cvs_length h]⟩⟩
theorem wrap_small (n : Nat) (h : n ≤ 4294967296) : IntKind.i64.wrap (n : Int) = (n : Int) := by
  have := iwrap_eq .i64 (n : Int)
  rw [← this]
  show iwrap .i64 (Int.ofNat n) = _
  simp only [iwrap, klim]
  have : Nat.blt n 9223372036854775808 = true := by rw [blt_iff]; omega
  rw [this]; rfl
theorem aalloc_ok {m : Map} {ρ : Rho} {ev : Operand → Value} (hρ : RhoOk m ρ ev) {o : Oper} {blk : Blk} {f : Nat → AV} (h : aalloc P ρ o.op = some (blk, f)) :
    NewIs P m default (fun w => (execOp ev o).run P w) blk f := by
  obtain ⟨dst, op, type, pos, after, guard⟩ := o
  cases op <;> simp only [aalloc, reduceCtorEq] at h <;> simp only [execOp]
  case alloc e =>
    split at h
    · rename_i z hz
      obtain ⟨rfl, rfl⟩ := Prod.mk.inj (Option.some.inj h)
      obtain ⟨v, hv, hrun⟩ := zero_ok hz m
      refine ⟨.cells v.cells.toList.toArray e, v.cells.toList.length, fun m' nx w w' he hm hw => ⟨holds_new (cel_ok hv) he hm hw, .pointer (some ⟨w.heap.size, 0, none⟩), by simp [cvo, hm], ?_⟩⟩
      simp [Instr.alloc, hrun, newVar, newRow]
    · cases h
  case box e x =>
    split at h
    · rename_i a ha
      obtain ⟨rfl, rfl⟩ := Prod.mk.inj (Option.some.inj h)
      refine ⟨.cells (ev x).cells.toList.toArray e, (ev x).cells.toList.length, fun m' nx w w' he hm hw => ⟨holds_new (cel_ok (hρ _ _ ha)) he hm hw, .pointer (some ⟨w.heap.size, 0, none⟩), by simp [cvo, hm], ?_⟩⟩
      simp [Instr.box, newVar, newRow]
    · cases h
  case buildSlice t n ps =>
    split at h
    · rename_i e ht
      split at h
      · rename_i s z l hs hz hl
        cases hb : ((Nat.ble (n * s) 16777216 && !(Nat.beq s 0)) && Nat.beq (len (cel z)) s) with
        | false => rw [hb] at h; cases h
        | true =>
          rw [hb, cond_true] at h
          rw [Bool.and_eq_true, Bool.and_eq_true, Nat.ble_eq, Bool.not_eq_true', ← Bool.not_eq_true, Nat.beq_eq, Nat.beq_eq, len_eq] at hb
          obtain ⟨⟨b1, b2⟩, b3⟩ := hb
          split at h
          · rename_i cs hcs
            obtain ⟨rfl, rfl⟩ := Prod.mk.inj (Option.some.inj h)
            obtain ⟨v, hv, hrun⟩ := zero_ok hz m
            have hcel := cel_ok hv
            have hp : PartsOk m l ((ps.map fun x => (x.1, ev x.2)).toList) := by have := aprt_ok hρ hl; simpa using this
            obtain ⟨us, g1, g2, g3⟩ := afill_ok hp (atile_ok hcel n) hcs
            have hzs : v.cells.size = s := by rw [← Array.length_toList, cvs_length hcel, b3]
            have hul : us.length = n * s := by rw [g3, vtile_length, Array.length_toList, hzs]
            refine ⟨.cells us.toArray e, us.length, fun m' nx w w' he hm hw => ⟨holds_new g2 he hm hw, .slice (some ⟨w.heap.size, 0, none⟩) n n, ?_, ?_⟩⟩
            · simp only [cvo, hm, Option.bind_some, Option.getD_some]
              rw [if_pos ⟨Nat.le_refl _, by omega, by rw [hul]; omega⟩]
              by_cases hn : n = 0 <;> simp [hn]
            · have hfill : Instr.fill (fun i => some (i * s, s)) (vtile v.cells.toList n).toArray (ps.map fun x => (x.1, ev x.2)).toList = some us.toArray := g1
              unfold Instr.buildSlice
              simp only [Sem.run_bind, run_und ht, Result.andThen_ok, run_szo hs]
              rw [if_neg (by omega)]
              simp only [Sem.run_pure, Result.andThen_ok, Sem.run_bind]
              by_cases hn : n * s = 0
              · have hn0 : n = 0 := by rcases Nat.mul_eq_zero.1 hn with h | h; exact h; exact absurd h b2
                subst hn0
                rw [if_pos hn]
                simp only [Sem.run_bind, Sem.run_pure, Result.andThen_ok, hn]
                have e0 : (Array.range 0).map (fun i => (#[] : Array Value)[i % (#[] : Array Value).size]!) = (vtile v.cells.toList 0).toArray := by simp [vtile]
                rw [e0, hfill]
                simp [newRow]
              · rw [if_neg hn]
                simp only [Sem.run_bind, hrun, Result.andThen_ok, Sem.run_pure]
                rw [tile_eq v.cells n s hzs (by omega), hfill]
                simp [newRow]
          · cases h
      · cases h
    · cases h
  case makeSlice t l c =>
    split at h
    · rename_i e ht
      split at h
      · rename_i i z l' c' hi hz hl hc
        cases hb : (((Nat.ble l' c' && Nat.ble c' 4294967296) && (Nat.ble (i.bytes * c') 281474976710656 && !(Nat.beq i.size 0))) && Nat.beq (len (cel z)) i.size) with
        | false => rw [hb] at h; cases h
        | true =>
          rw [hb, cond_true] at h
          rw [Bool.and_eq_true, Bool.and_eq_true, Bool.and_eq_true, Bool.and_eq_true, Nat.ble_eq, Nat.ble_eq, Nat.ble_eq, Bool.not_eq_true', ← Bool.not_eq_true, Nat.beq_eq, Nat.beq_eq, len_eq] at hb
          obtain ⟨⟨⟨b1, b2⟩, b3, b4⟩, b5⟩ := hb
          obtain ⟨rfl, rfl⟩ := Prod.mk.inj (Option.some.inj h)
          obtain ⟨v, hv, hrun⟩ := zero_ok hz m
          obtain ⟨k1, hk1⟩ := bd_ok hρ hl
          obtain ⟨k2, hk2⟩ := bd_ok hρ hc
          have hcel := cel_ok hv
          have hzs : v.cells.size = i.size := by rw [← Array.length_toList, cvs_length hcel, b5]
          have hul : (vtile v.cells.toList c').length = c' * i.size := by rw [vtile_length, Array.length_toList, hzs]
          refine ⟨.cells (vtile v.cells.toList c').toArray e, (vtile v.cells.toList c').length, fun m' nx w w' he hm hw => ⟨holds_new (atile_ok hcel c') he hm hw, .slice (some ⟨w.heap.size, 0, none⟩) l' c', ?_, ?_⟩⟩
          · simp only [cvo, hm, Option.bind_some, Option.getD_some]
            rw [if_pos ⟨b1, by omega, by rw [hul]; omega⟩]
            by_cases hn : c' = 0 <;> simp [hn]
          · have q1 : decide ((c' : Int) < 0) = false := decide_eq_false (by omega)
            have q2 : decide ((i.bytes : Int) * (c' : Int) > 2 ^ 48) = false := decide_eq_false (by
              have : ((i.bytes * c' : Nat) : Int) ≤ 281474976710656 := Int.ofNat_le.2 b3
              rw [Int.natCast_mul] at this
              exact Int.not_lt.2 this)
            have q3 : decide ((l' : Int) < 0) = false := decide_eq_false (by omega)
            have q4 : decide ((l' : Int) > (c' : Int)) = false := decide_eq_false (by omega)
            unfold Instr.makeSlice
            simp only [Sem.run_bind, run_und ht, Result.andThen_ok, hk1, hk2, asInt, asIntOf, Sem.run_pure, typeInfo, run_program, inf_ok hi, wrap_small c' b2, wrap_small l' (Nat.le_trans b1 b2)]
            rw [if_neg (by rw [q1, q2, q3, q4]; simp)]
            simp only [Sem.run_bind, Sem.run_pure, Result.andThen_ok, run_askRoom, Int.toNat_natCast]
            have hsz : (Go.sizeOf e).run P w = .ok i.size w := run_szo (by simp [szo, hi]) w
            simp only [hsz, Result.andThen_ok]
            by_cases hn : c' * i.size = 0
            · have hn0 : c' = 0 := by rcases Nat.mul_eq_zero.1 hn with h | h; exact h; exact absurd h b4
              subst hn0
              rw [if_pos hn]
              simp [newRow, vtile]
              exact congrArg (fun x => w.alloc (.cells x e)) (by apply Array.ext'; simp)
            · rw [if_neg hn]
              simp only [Sem.run_bind, hrun, Result.andThen_ok, Sem.run_pure]
              rw [tile_eq v.cells c' i.size hzs (by omega)]
              simp [newRow]
      · cases h
    · cases h
  case makeMap t r =>
    have fin : ∀ (m' : Map) (nx : Nat) (w w' : World), m' nx = some ⟨w.heap.size, 0, 0⟩ → w'.heap = w.heap.push (.map #[] 0) → Holds m' w' nx (.map [] 0) ∧ cvo m' (.mp nx) = some (.map (some w.heap.size)) := by
      intro m' nx w w' hm hw
      exact ⟨⟨_, #[], hm, by rw [hw]; simp, .nil⟩, by simp [cvo, hm]⟩
    split at h
    · rename_i kt et ht
      obtain ⟨rfl, rfl⟩ := Prod.mk.inj (Option.some.inj h)
      refine ⟨.map #[] 0, 0, fun m' nx w w' he hm hw => ⟨(fin m' nx w w' hm hw).1, _, (fin m' nx w w' hm hw).2, ?_⟩⟩
      simp [Instr.makeMap]
    · rename_i kt et x ht
      split at h
      · rename_i n hn
        obtain ⟨rfl, rfl⟩ := Prod.mk.inj (Option.some.inj h)
        obtain ⟨k, hk⟩ := bd_ok hρ hn
        refine ⟨.map #[] 0, 0, fun m' nx w w' he hm hw => ⟨(fin m' nx w w' hm hw).1, _, (fin m' nx w w' hm hw).2, ?_⟩⟩
        simp [Instr.makeMap, run_und ht, hk, asInt, asIntOf]
      · cases h
    · cases h
end
end Am
