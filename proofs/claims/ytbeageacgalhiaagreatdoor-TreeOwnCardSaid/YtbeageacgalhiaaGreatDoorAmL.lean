/- A machine for closed runs: what a step keeps. No program in sight. -/
import Derived.Test.YtbeageacgalhiaaGreatDoorAmK
set_option linter.unusedVariables false
set_option linter.unusedSimpArgs false
namespace Am
open Go
noncomputable section
variable {P : Program}

structure St where
  h : T Blk
  nx : Nat
def St.lk (S : St) : Lk := S.h.get

structure Step (g : Nat) (m : Map) (lk : Lk) (nx : Nat) (w : World) (m' : Map) (lk' : Lk) (nx' : Nat) (w' : World) : Prop where
  ext : Ext m m'
  dom : ∀ id L, m' id = some L → m id = some L ∨ (nx ≤ id ∧ id < nx')
  le : nx ≤ nx'
  rel : R lk' m' w'
  os : w'.os = w.os
  tape : w'.tape = w.tape
  output : w'.output = w.output
  size : w.heap.size ≤ w'.heap.size
  fr : ∀ k, k < w.heap.size → (∀ id blk L, g ≤ id → lk id = some blk → m id = some L → L.b ≠ k) → w'.heap[k]? = w.heap[k]?
  img : ∀ id blk L, g ≤ id → lk' id = some blk → m' id = some L → w.heap.size ≤ L.b ∨ ∃ id0 blk0 L0, g ≤ id0 ∧ lk id0 = some blk0 ∧ m id0 = some L0 ∧ L0.b = L.b
  glob : ∀ id b, id < g → lk' id = some b → lk id = some b
  keep : ∀ id b, lk' id = some b → (∃ b0, lk id = some b0) ∨ (nx ≤ id ∧ id < nx')
def Fre (m : Map) (a b : Nat) : Prop := ∀ id, a ≤ id → id < b → m id = none

theorem Step.refl {g : Nat} {m : Map} {lk : Lk} {nx : Nat} {w : World} (h : R lk m w) : Step g m lk nx w m lk nx w :=
  ⟨fun _ _ h => h, fun _ _ h => .inl h, Nat.le_refl _, h, rfl, rfl, rfl, Nat.le_refl _, fun _ _ _ => rfl, fun id blk L h1 h2 h3 => .inr ⟨id, blk, L, h1, h2, h3, rfl⟩, fun _ _ _ h => h, fun _ b h => .inl ⟨b, h⟩⟩
theorem Step.trans {g : Nat} {m m1 m2 : Map} {lk lk1 lk2 : Lk} {nx nx1 nx2 : Nat} {w w1 w2 : World} (h : Step g m lk nx w m1 lk1 nx1 w1) (k : Step g m1 lk1 nx1 w1 m2 lk2 nx2 w2) :
    Step g m lk nx w m2 lk2 nx2 w2 where
  ext := fun id L h1 => k.ext _ _ (h.ext _ _ h1)
  dom := fun id L h1 => by
    rcases k.dom _ _ h1 with h2 | ⟨h2, h3⟩
    · rcases h.dom _ _ h2 with h4 | ⟨h4, h5⟩
      · exact .inl h4
      · exact .inr ⟨h4, Nat.lt_of_lt_of_le h5 k.le⟩
    · exact .inr ⟨Nat.le_trans h.le h2, h3⟩
  le := Nat.le_trans h.le k.le
  rel := k.rel
  os := k.os.trans h.os
  tape := k.tape.trans h.tape
  output := k.output.trans h.output
  size := Nat.le_trans h.size k.size
  fr := fun j hj hn => by
    rw [← h.fr j hj hn]
    refine k.fr j (Nat.lt_of_lt_of_le hj h.size) fun id blk L h1 h2 h3 e => ?_
    rcases h.img id blk L h1 h2 h3 with h4 | ⟨id0, blk0, L0, h4, h5, h6, h7⟩
    · omega
    · exact hn id0 blk0 L0 h4 h5 h6 (h7.trans e)
  img := fun id blk L h1 h2 h3 => by
    rcases k.img id blk L h1 h2 h3 with h4 | ⟨id0, blk0, L0, h4, h5, h6, h7⟩
    · exact .inl (Nat.le_trans h.size h4)
    · rcases h.img id0 blk0 L0 h4 h5 h6 with h8 | ⟨id1, blk1, L1, h8, h9, h10, h11⟩
      · exact .inl (h7 ▸ h8)
      · exact .inr ⟨id1, blk1, L1, h8, h9, h10, h11.trans h7⟩
  glob := fun id b hid hb => h.glob id b hid (k.glob id b hid hb)
  keep := fun id b hb => by
    rcases k.keep id b hb with ⟨b0, h1⟩ | ⟨h1, h2⟩
    · rcases h.keep id b0 h1 with h3 | ⟨h3, h4⟩
      · exact .inl h3
      · exact .inr ⟨h3, Nat.lt_of_lt_of_le h4 k.le⟩
    · exact .inr ⟨Nat.le_trans h.le h1, h2⟩
/-- two steps over one stretch of numbers -/
theorem Step.trans2 {g : Nat} {m m1 m2 : Map} {lk lk1 lk2 : Lk} {a b : Nat} {w w1 w2 : World} (h : Step g m lk a w m1 lk1 b w1) (k : Step g m1 lk1 a w1 m2 lk2 b w2) : Step g m lk a w m2 lk2 b w2 where
  ext := fun id L h1 => k.ext _ _ (h.ext _ _ h1)
  dom := fun id L h1 => by
    rcases k.dom _ _ h1 with h2 | h2
    · exact h.dom _ _ h2
    · exact .inr h2
  le := h.le
  rel := k.rel
  os := k.os.trans h.os
  tape := k.tape.trans h.tape
  output := k.output.trans h.output
  size := Nat.le_trans h.size k.size
  fr := fun j hj hn => by
    rw [← h.fr j hj hn]
    refine k.fr j (Nat.lt_of_lt_of_le hj h.size) fun id blk L h1 h2 h3 e => ?_
    rcases h.img id blk L h1 h2 h3 with h4 | ⟨id0, blk0, L0, h4, h5, h6, h7⟩
    · omega
    · exact hn id0 blk0 L0 h4 h5 h6 (h7.trans e)
  img := fun id blk L h1 h2 h3 => by
    rcases k.img id blk L h1 h2 h3 with h4 | ⟨id0, blk0, L0, h4, h5, h6, h7⟩
    · exact .inl (Nat.le_trans h.size h4)
    · rcases h.img id0 blk0 L0 h4 h5 h6 with h8 | ⟨id1, blk1, L1, h8, h9, h10, h11⟩
      · exact .inl (h7 ▸ h8)
      · exact .inr ⟨id1, blk1, L1, h8, h9, h10, h11.trans h7⟩
  glob := fun id b hid hb => h.glob id b hid (k.glob id b hid hb)
  keep := fun id b hb => by
    rcases k.keep id b hb with ⟨b0, h1⟩ | h1
    · exact h.keep id b0 h1
    · exact .inr h1
theorem Step.widen {g : Nat} {m m' : Map} {lk lk' : Lk} {a b c d : Nat} {w w' : World} (h : Step g m lk a w m' lk' b w') (h1 : c ≤ a) (h2 : b ≤ d) : Step g m lk c w m' lk' d w' :=
  ⟨h.ext, fun id L hL => (h.dom id L hL).imp (fun h => h) (fun ⟨x, y⟩ => ⟨Nat.le_trans h1 x, Nat.lt_of_lt_of_le y h2⟩), Nat.le_trans h1 (Nat.le_trans h.le h2), h.rel, h.os, h.tape, h.output, h.size, h.fr, h.img, h.glob,
    fun id b hb => (h.keep id b hb).imp (fun h => h) (fun ⟨x, y⟩ => ⟨Nat.le_trans h1 x, Nat.lt_of_lt_of_le y h2⟩)⟩
theorem Fre.step {g : Nat} {m m' : Map} {lk lk' : Lk} {nx nx' b : Nat} {w w' : World} (h : Step g m lk nx w m' lk' nx' w') (hf : Fre m nx b) : Fre m' nx' b := fun id h1 h2 => by
  cases hm : m' id with
  | none => rfl
  | some L =>
    rcases h.dom _ _ hm with h3 | ⟨h3, h4⟩
    · rw [hf id (Nat.le_trans h.le h1) h2] at h3; cases h3
    · omega
theorem Fre.le {m : Map} {a b c : Nat} (h : Fre m a c) (hb : b ≤ c) : Fre m a b := fun id h1 h2 => h id h1 (Nat.lt_of_lt_of_le h2 hb)
/-- the world alone turned, no block: a draw -/
theorem R.heap {lk : Lk} {m : Map} {w w' : World} (h : R lk m w) (e : w'.heap = w.heap) : R lk m w' :=
  ⟨fun id b hb => (h.holds id b hb).mono (fun _ _ h => h) (fun L _ => by rw [e]), h.inj⟩
theorem Step.drew {g : Nat} {m : Map} {lk : Lk} {nx : Nat} {w w' : World} (h : R lk m w) (e : w'.heap = w.heap) (e1 : w'.os = w.os) (e2 : w'.tape = w.tape) (e3 : w'.output = w.output) : Step g m lk nx w m lk nx w' :=
  ⟨fun _ _ h => h, fun _ _ h => .inl h, Nat.le_refl _, h.heap e, e1, e2, e3, by rw [e]; exact Nat.le_refl _, fun _ _ _ => by rw [e], fun id blk L h1 h2 h3 => .inr ⟨id, blk, L, h1, h2, h3, rfl⟩, fun _ _ _ h => h, fun _ b h => .inl ⟨b, h⟩⟩

/-- less may be known -/
theorem Step.weaken {g : Nat} {m m' : Map} {lk lk' lk2 : Lk} {nx nx' : Nat} {w w' : World} (h : Step g m lk nx w m' lk' nx' w') (hs : ∀ id x, lk2 id = some x → ∃ y, lk' id = some y ∧ (Holds m' w' id y → Holds m' w' id x)) (hg : ∀ id x, id < g → lk2 id = some x → lk' id = some x) : Step g m lk nx w m' lk2 nx' w' := by
  refine ⟨h.ext, h.dom, h.le, ⟨fun id x hx => ?_, fun id id' x x' L L' h1 h2 h3 h4 h5 => ?_⟩, h.os, h.tape, h.output, h.size, h.fr, fun id x L h1 h2 h3 => ?_, fun id x hid hx => h.glob id x hid (hg id x hid hx), fun id x hx => ?_⟩
  · obtain ⟨y, hy, hh⟩ := hs id x hx
    exact hh (h.rel.holds id y hy)
  · obtain ⟨y, hy, _⟩ := hs id x h1
    obtain ⟨y', hy', _⟩ := hs id' x' h2
    exact h.rel.inj id id' y y' L L' hy hy' h3 h4 h5
  · obtain ⟨y, hy, _⟩ := hs id x h2
    exact h.img id y L h1 hy h3
  · obtain ⟨y, hy, _⟩ := hs id x hx
    exact h.keep id y hy
def mset (m : Map) (id : Nat) (L : Loc) : Map := fun j => if j = id then some L else m j
theorem mset_self (m : Map) (id : Nat) (L : Loc) : mset m id L id = some L := by simp [mset]
theorem mset_ext {m : Map} {id : Nat} {L : Loc} (h : m id = none) : Ext m (mset m id L) := fun j K hj => by
  unfold mset
  split
  · rename_i e; subst e; rw [h] at hj; cases hj
  · exact hj
theorem mset_ne {m : Map} {id j : Nat} {L : Loc} (h : j ≠ id) : mset m id L j = m j := by simp [mset, h]

/-- a new block -/
theorem Step.new {g : Nat} {m : Map} {lk lk' : Lk} {nx : Nat} {w w' : World} {e : Nat} {o : Obj} {blk : Blk} (hR : R lk m w) (hg : g ≤ nx) (hm : m nx = none)
    (hh : w'.heap = w.heap.push o) (e1 : w'.os = w.os) (e2 : w'.tape = w.tape) (e3 : w'.output = w.output)
    (hlk : ∀ id b, lk' id = some b → (id = nx ∧ b = blk) ∨ (id ≠ nx ∧ lk id = some b)) (hlg : ∀ id, id ≠ nx → lk' id = lk id)
    (hb : Holds (mset m nx ⟨w.heap.size, 0, e⟩) w' nx blk) :
    Step g m lk nx w (mset m nx ⟨w.heap.size, 0, e⟩) lk' (nx + 1) w' := by
  have hext : Ext m (mset m nx ⟨w.heap.size, 0, e⟩) := mset_ext hm
  have hold : ∀ k, k < w.heap.size → w'.heap[k]? = w.heap[k]? := fun k hk => by
    rw [hh, Array.getElem?_push, if_neg (by omega)]
  refine ⟨hext, ?_, by omega, ⟨?_, ?_⟩, e1, e2, e3, by rw [hh]; simp, fun k hk _ => hold k hk, ?_, fun id b hid hb => by rw [← hlg id (by omega)]; exact hb, fun id b hb => by
    rcases hlk id b hb with ⟨rfl, _⟩ | ⟨_, h⟩
    · exact .inr ⟨Nat.le_refl _, Nat.lt_succ_self _⟩
    · exact .inl ⟨b, h⟩⟩
  · intro id L hL
    by_cases h : id = nx
    · exact .inr (by omega)
    · rw [mset_ne h] at hL; exact .inl hL
  · intro id b hb'
    rcases hlk id b hb' with ⟨rfl, rfl⟩ | ⟨hne, hb''⟩
    · exact hb
    · have H := hR.holds id b hb''
      obtain ⟨L, hL, hlt⟩ := H.loc
      exact H.mono hext (fun K hK => by obtain rfl := Option.some.inj (hL.symm.trans hK); exact hold _ hlt)
  · intro id id' b b' L L' h1 h2 h3 h4 h5
    rcases hlk id b h1 with ⟨rfl, rfl⟩ | ⟨hne, hb1⟩ <;> rcases hlk id' b' h2 with ⟨rfl, rfl⟩ | ⟨hne', hb2⟩
    · rfl
    · rw [mset_self] at h3; obtain rfl := Option.some.inj h3
      rw [mset_ne hne'] at h4
      obtain ⟨K, hK, hlt⟩ := (hR.holds _ _ hb2).loc
      obtain rfl := Option.some.inj (hK.symm.trans h4)
      simp only at h5; omega
    · rw [mset_self] at h4; obtain rfl := Option.some.inj h4
      rw [mset_ne hne] at h3
      obtain ⟨K, hK, hlt⟩ := (hR.holds _ _ hb1).loc
      obtain rfl := Option.some.inj (hK.symm.trans h3)
      simp only at h5; omega
    · rw [mset_ne hne] at h3; rw [mset_ne hne'] at h4
      exact hR.inj id id' b b' L L' hb1 hb2 h3 h4 h5
  · intro id b L h1 h2 h3
    rcases hlk id b h2 with ⟨rfl, rfl⟩ | ⟨hne, hb1⟩
    · rw [mset_self] at h3; obtain rfl := Option.some.inj h3
      exact .inl (Nat.le_refl _)
    · rw [mset_ne hne] at h3; exact .inr ⟨id, b, L, h1, hb1, h3, rfl⟩
/-- a block is another -/
theorem Step.put {g : Nat} {m : Map} {lk lk' : Lk} {nx id : Nat} {w w' : World} {blk0 blk : Blk} {L : Loc} (hR : R lk m w) (hg : g ≤ id) (h0 : lk id = some blk0) (hL : m id = some L)
    (hw : ∀ k, k ≠ L.b → w'.heap[k]? = w.heap[k]?) (hs : w'.heap.size = w.heap.size) (e1 : w'.os = w.os) (e2 : w'.tape = w.tape) (e3 : w'.output = w.output)
    (hlk : ∀ j b, lk' j = some b → (j = id ∧ b = blk) ∨ (j ≠ id ∧ lk j = some b)) (hlg : ∀ j, j ≠ id → lk' j = lk j)
    (hb : Holds m w' id blk) : Step g m lk nx w m lk' nx w' := by
  refine ⟨fun _ _ h => h, fun _ _ h => .inl h, Nat.le_refl _, ⟨?_, ?_⟩, e1, e2, e3, by omega, ?_, ?_, fun j b hj hb => by rw [← hlg j (by omega)]; exact hb, fun j b hj => by
    rcases hlk j b hj with ⟨rfl, _⟩ | ⟨_, h⟩
    · exact .inl ⟨_, h0⟩
    · exact .inl ⟨b, h⟩⟩
  · intro j b hj
    rcases hlk j b hj with ⟨rfl, rfl⟩ | ⟨hne, hj'⟩
    · exact hb
    · exact (hR.holds j b hj').mono (fun _ _ h => h) (fun K hK => hw _ fun e => hne (hR.inj j id b blk0 K L hj' h0 hK hL e))
  · intro j j' b b' K K' h1 h2 h3 h4 h5
    have hl : ∀ j b, lk' j = some b → ∃ b0, lk j = some b0 := fun j b h => by
      rcases hlk j b h with ⟨rfl, _⟩ | ⟨_, h⟩
      · exact ⟨_, h0⟩
      · exact ⟨_, h⟩
    obtain ⟨c, hc⟩ := hl j b h1
    obtain ⟨c', hc'⟩ := hl j' b' h2
    exact hR.inj j j' c c' K K' hc hc' h3 h4 h5
  · intro k hk hn
    exact hw k fun e => hn id blk0 L hg h0 hL e.symm
  · intro j b K h1 h2 h3
    rcases hlk j b h2 with ⟨rfl, rfl⟩ | ⟨_, h⟩
    · exact .inr ⟨j, blk0, K, h1, h0, h3, rfl⟩
    · exact .inr ⟨j, b, K, h1, h, h3, rfl⟩
/-- a block goes over to a new number, and is another -/
theorem Step.move {g : Nat} {m : Map} {lk lk' : Lk} {nx id : Nat} {w w' : World} {blk0 blk : Blk} {L L' : Loc} (hR : R lk m w) (hg : g ≤ id) (hgn : g ≤ nx) (h0 : lk id = some blk0) (hL : m id = some L) (hm : m nx = none) (hLb : L'.b = L.b)
    (hw : ∀ k, k ≠ L.b → w'.heap[k]? = w.heap[k]?) (hs : w'.heap.size = w.heap.size) (e1 : w'.os = w.os) (e2 : w'.tape = w.tape) (e3 : w'.output = w.output)
    (hlk : ∀ j b, lk' j = some b → (j = nx ∧ b = blk) ∨ (j ≠ nx ∧ j ≠ id ∧ lk j = some b)) (hlg : ∀ j, j ≠ id → j ≠ nx → lk' j = lk j)
    (hb : Holds (mset m nx L') w' nx blk) : Step g m lk nx w (mset m nx L') lk' (nx + 1) w' := by
  have hext : Ext m (mset m nx L') := mset_ext hm
  refine ⟨hext, ?_, by omega, ⟨?_, ?_⟩, e1, e2, e3, by omega, ?_, ?_, fun j b hj hb => by rw [← hlg j (by omega) (by omega)]; exact hb, fun j b hj => by
    rcases hlk j b hj with ⟨rfl, _⟩ | ⟨_, _, h⟩
    · exact .inr ⟨Nat.le_refl _, Nat.lt_succ_self _⟩
    · exact .inl ⟨b, h⟩⟩
  · intro j K hK
    by_cases h : j = nx
    · exact .inr (by omega)
    · rw [mset_ne h] at hK; exact .inl hK
  · intro j b hj
    rcases hlk j b hj with ⟨rfl, rfl⟩ | ⟨hne, hne2, hj'⟩
    · exact hb
    · exact (hR.holds j b hj').mono hext (fun K hK => hw _ fun e => hne2 (hR.inj j id b blk0 K L hj' h0 hK hL e))
  · intro j j' b b' K K' h1 h2 h3 h4 h5
    rcases hlk j b h1 with ⟨rfl, rfl⟩ | ⟨hne, hn2, hb1⟩ <;> rcases hlk j' b' h2 with ⟨rfl, rfl⟩ | ⟨hne', hn2', hb2⟩
    · rfl
    · rw [mset_self] at h3; obtain rfl := Option.some.inj h3
      rw [mset_ne hne'] at h4
      exact absurd (hR.inj j' id b' blk0 K' L hb2 h0 h4 hL (h5.symm.trans hLb)) hn2'
    · rw [mset_self] at h4; obtain rfl := Option.some.inj h4
      rw [mset_ne hne] at h3
      exact absurd (hR.inj j id b blk0 K L hb1 h0 h3 hL (h5.trans hLb)) hn2
    · rw [mset_ne hne] at h3; rw [mset_ne hne'] at h4
      exact hR.inj j j' b b' K K' hb1 hb2 h3 h4 h5
  · intro k hk hn
    exact hw k fun e => hn id blk0 L hg h0 hL e.symm
  · intro j b K h1 h2 h3
    rcases hlk j b h2 with ⟨rfl, rfl⟩ | ⟨hne, _, h⟩
    · rw [mset_self] at h3; obtain rfl := Option.some.inj h3
      exact .inr ⟨id, blk0, L, hg, h0, hL, hLb.symm⟩
    · rw [mset_ne hne] at h3; exact .inr ⟨j, b, K, h1, h, h3, rfl⟩

/-- two sets of blocks -/
def jn (a b : Lk) : Lk := fun id => match a id with
  | some x => some x
  | none => b id
theorem jn_some {a b : Lk} {id : Nat} {x : Blk} (h : jn a b id = some x) : a id = some x ∨ (a id = none ∧ b id = some x) := by
  unfold jn at h
  split at h
  · rename_i y hy; exact .inl (hy.trans h)
  · rename_i hn; exact .inr ⟨hn, h⟩
theorem R.sub {a b : Lk} {m : Map} {w : World} (h : R a m w) (hs : ∀ id x, b id = some x → a id = some x) : R b m w :=
  ⟨fun id x hx => h.holds id x (hs id x hx), fun id id' x x' L L' h1 h2 h3 h4 h5 => h.inj id id' x x' L L' (hs _ _ h1) (hs _ _ h2) h3 h4 h5⟩
/-- blocks that a step does not know of stay -/
theorem Step.beside {g : Nat} {m m' : Map} {lk lk' e : Lk} {nx nx' : Nat} {w w' : World} (h : Step g m lk nx w m' lk' nx' w') (hR : R (jn lk e) m w)
    (he : ∀ id x, e id = some x → g ≤ id ∧ lk id = none) : Step g m (jn lk e) nx w m' (jn lk' e) nx' w' := by
  have old : ∀ id x, lk' id = none → e id = some x → Holds m w id x := fun id x hn hx =>
    hR.holds id x (by unfold jn; rw [(he id x hx).2]; exact hx)
  have stay : ∀ id x L, e id = some x → m id = some L → w'.heap[L.b]? = w.heap[L.b]? := by
    intro id x L hx hL
    obtain ⟨K, hK, hlt⟩ := (hR.holds id x (by unfold jn; rw [(he id x hx).2]; exact hx)).loc
    obtain rfl := Option.some.inj (hK.symm.trans hL)
    refine h.fr _ hlt fun j b J h1 h2 h3 e' => ?_
    have : j = id := hR.inj j id b x J K (by unfold jn; rw [h2]) (by unfold jn; rw [(he id x hx).2]; exact hx) h3 hK e'
    subst this
    rw [(he _ x hx).2] at h2; cases h2
  refine ⟨h.ext, h.dom, h.le, ⟨?_, ?_⟩, h.os, h.tape, h.output, h.size, fun k hk hn => h.fr k hk fun id b L h1 h2 h3 => hn id b L h1 (by unfold jn; rw [h2]) h3, ?_, ?_, ?_⟩
  rotate_left 2
  · intro id b L h1 h2 h3
    rcases jn_some h2 with h2 | ⟨n1, h2⟩
    · rcases h.img id b L h1 h2 h3 with h4 | ⟨id0, b0, L0, h4, h5, h6, h7⟩
      · exact .inl h4
      · exact .inr ⟨id0, b0, L0, h4, by unfold jn; rw [h5], h6, h7⟩
    · obtain ⟨K, hK, _⟩ := (old id b n1 h2).loc
      obtain rfl := Option.some.inj ((h.ext _ _ hK).symm.trans h3)
      exact .inr ⟨id, b, K, h1, by unfold jn; rw [(he id b h2).2]; exact h2, hK, rfl⟩
  · intro id b hid hb
    rcases jn_some hb with hb | ⟨n1, hb⟩
    · unfold jn; rw [h.glob id b hid hb]
    · exact absurd (he id b hb).1 (by omega)
  · intro id b hb
    rcases jn_some hb with hb | ⟨n1, hb⟩
    · rcases h.keep id b hb with ⟨b0, h1⟩ | h1
      · exact .inl ⟨b0, by unfold jn; rw [h1]⟩
      · exact .inr h1
    · exact .inl ⟨b, by unfold jn; rw [(he id b hb).2]; exact hb⟩
  · intro id x hx
    rcases jn_some hx with hx | ⟨hn, hx⟩
    · exact h.rel.holds id x hx
    · exact (old id x hn hx).mono h.ext (fun L hL => stay id x L hx hL)
  · have key : ∀ id id' x x' L L', lk' id = some x → e id' = some x' → m' id = some L → m' id' = some L' → L.b = L'.b → id = id' := by
      intro id id' x x' L L' h1 h2 h3 h4 h5
      have hn := (he id' x' h2).2
      obtain ⟨K, hK, hlt⟩ := (hR.holds id' x' (by unfold jn; rw [hn]; exact h2)).loc
      obtain rfl := Option.some.inj ((h.ext _ _ hK).symm.trans h4)
      by_cases hg : g ≤ id
      · rcases h.img id x L hg h1 h3 with h6 | ⟨id0, b0, L0, h6, h7, h8, h9⟩
        · omega
        · have : id0 = id' := hR.inj id0 id' b0 x' L0 K (by unfold jn; rw [h7]) (by unfold jn; rw [hn]; exact h2) h8 hK (h9.trans h5)
          subst this; rw [hn] at h7; cases h7
      · have h1 := h.glob id x (by omega) h1
        obtain ⟨J, hJ, _⟩ := (hR.holds id x (by unfold jn; rw [h1])).loc
        obtain rfl := Option.some.inj ((h.ext _ _ hJ).symm.trans h3)
        exact hR.inj id id' x x' J K (by unfold jn; rw [h1]) (by unfold jn; rw [hn]; exact h2) hJ hK h5
    intro id id' x x' L L' h1 h2 h3 h4 h5
    rcases jn_some h1 with h1 | ⟨n1, h1⟩ <;> rcases jn_some h2 with h2 | ⟨n2, h2⟩
    · exact h.rel.inj id id' x x' L L' h1 h2 h3 h4 h5
    · exact key id id' x x' L L' h1 h2 h3 h4 h5
    · exact (key id' id x' x L' L h2 h1 h4 h3 h5.symm).symm
    · obtain ⟨K, hK, _⟩ := (old id x n1 h1).loc
      obtain ⟨K', hK', _⟩ := (old id' x' n2 h2).loc
      obtain rfl := Option.some.inj ((h.ext _ _ hK).symm.trans h3)
      obtain rfl := Option.some.inj ((h.ext _ _ hK').symm.trans h4)
      exact hR.inj id id' x x' K K' (by unfold jn; rw [(he id x h1).2]; exact h1) (by unfold jn; rw [(he id' x' h2).2]; exact h2) hK hK' h5
end
end Am
