/- A machine for closed runs: append, copy. No program in sight. -/
import Derived.Test.YtbeageacgalhiaaGreatDoorAmN
import Derived.Deep.AppendSrc
set_option linter.unusedVariables false
set_option linter.unusedSimpArgs false
namespace Am
open Go
noncomputable section
variable {P : Program}

def appZ (P : Program) : List TypeId → Bool
  | [x] => match und P x with
    | some (.slice _) => true
    | some .string => true
    | _ => false
  | _ => false
def afresh (S : St) (e : TypeId) (es need : Nat) (cs : List AV) : AV × St :=
  (.sl S.nx 0 need none es 0, ⟨S.h.put (some (.cells e cs 0 false)) S.nx, Nat.succ S.nx⟩)
def aapp1 (g : Nat) (S : St) (e : TypeId) (n : Nat) (new : List AV) (es : Nat) : AV → Option (AV × St)
  | .nsl => bif Nat.beq n 0 then some (.nsl, S) else some (afresh S e es n new)
  | .sl id off ln cap es' pre => bif Nat.beq n 0 then some (.sl id off ln cap es' pre, S) else
    bif Nat.beq es' es && Nat.ble (ln + n) 1073741824 then
      match cap with
      | some c => bif Nat.ble (ln + n) c then
          match asto g S id (off + ln * es) new with
          | some S' => some (.sl id off (ln + n) (some c) es pre, S')
          | none => none
        else match afst S.lk es ln (.sl id off ln (some c) es pre) with
          | some old => some (afresh S e es (ln + n) (old ++ new))
          | none => none
      | none => match S.h.get id, afst S.lk es ln (.sl id off ln none es pre) with
        | some (.cells t0 _ fz _), some old =>
          bif (Nat.beq t0 e && Nat.ble g id) && Nat.ble fz (off + ln * es) then
            some (.sl S.nx 0 (ln + n) none es 0, ⟨(S.h.put none id).put (some (.cells e (old ++ new) (fz - off) false)) S.nx, Nat.succ S.nx⟩)
          else none
        | _, _ => none
    else none
  | _ => none
def aapp (P : Program) (g : Nat) (S : St) (ts : List TypeId) (s x : AV) : Option (AV × St) :=
  match ts with
  | [] => none
  | t :: rest => match und P t with
    | some (.slice e) => match inf P e, zero P e, alno x with
      | some i, some z, some n =>
        bif ((appZ P rest && !(Nat.beq i.size 0)) && (Nat.beq (len (cel z)) i.size && Nat.ble i.bytes 65536)) && (Nat.ble g S.nx && Nat.ble n 1073741824) then
          match afst S.lk i.size n x with
          | some new => bif allc new then aapp1 g S e n new i.size s else none
          | none => none
        else none
      | _, _, _ => none
    | _ => none
theorem app_src {m : Map} {lk : Lk} {w : World} (hR : R lk m w) {rest : List TypeId} (hz : appZ P rest = true) {x : AV} {xv : Value} {n es : Nat} {l : List AV} (hx : cvo m x = some xv) (hn : alno x = some n) (hl : afst lk es n x = some l) (hc : allc l = true) :
    ∃ tx us, rest = [tx] ∧ Src P es tx xv n us w ∧ cvs m l = some us := by
  obtain ⟨us, h1, h2, h3⟩ := afst_ok (P := P) hR ⟨n, hn, Nat.le_refl _⟩ hl hx
  obtain ⟨us', h1', h2', _⟩ := afst_ok (P := P) (w := w.drew) (hR.heap rfl) ⟨n, hn, Nat.le_refl _⟩ hl hx
  obtain rfl := Option.some.inj (h1.symm.trans h1')
  have hlen : ∀ w', (Builtin.lenOf xv).run P w' = .ok n w' := fun w' => alno_ok hn hx w'
  unfold appZ at hz
  split at hz
  · rename_i tx
    split at hz
    · rename_i e' hk; exact ⟨tx, us, rfl, ⟨.inl ⟨e', und_ok hk⟩, hlen, h2, h2', h3, allc_ok h1 hc⟩, h1⟩
    · rename_i hk; exact ⟨tx, us, rfl, ⟨.inr (und_ok hk), hlen, h2, h2', h3, allc_ok h1 hc⟩, h1⟩
    · cases hz
  · cases hz
theorem app_in {t tx e : TypeId} {i : TypeInfo} (ht : und P t = some (.slice e)) (hi : inf P e = some i) {w w' : World} {xv : Value} {n : Nat} {news : List Value} (hs : Src P i.size tx xv n news w) (base : Option Addr) (ln c : Nat) (hle : ln + n ≤ c)
    (hst : ∀ a, base = some a → (storeCells (a.add (ln * i.size)) news).run P w = .ok () w') (hb : base = none → w' = w) (ty : TypeId) :
    (Builtin.append_ #[t, tx] ty #[.slice base ln c, xv]).run P w = .ok (.slice base (ln + n) c) w' := by
  cases base with
  | none => rw [hb rfl]; rcases hs.kind with ⟨e', hk⟩ | hk <;> simp [Builtin.append_, run_und ht, Go.run_underlying hk, Go.sizeOf, typeInfo, inf_ok hi, hs.len, hle, hs.cells]
  | some a => rcases hs.kind with ⟨e', hk⟩ | hk <;> simp [Builtin.append_, run_und ht, Go.run_underlying hk, Go.sizeOf, typeInfo, inf_ok hi, hs.len, hle, hs.cells, hst a rfl]
theorem fresh_ok {g : Nat} {m : Map} {S : St} {w : World} (hR : R S.lk m w) (hg : g ≤ S.nx) (hm : m S.nx = none) {e : TypeId} {es need cap : Nat} {cs : List AV} {vs : List Value} {tail : Array Value} (hcs : cvs m cs = some vs) (hl : vs.length = need * es) (h0 : 0 < es) (hc : need ≤ cap) (ht : tail.size = (cap - need) * es) :
    cvo (mset m S.nx ⟨w.heap.size, 0, cap * es⟩) (afresh S e es need cs).1 = some (.slice (some ⟨w.heap.size, 0, none⟩) need cap) ∧
    Step g m S.lk S.nx w (mset m S.nx ⟨w.heap.size, 0, cap * es⟩) (afresh S e es need cs).2.lk (afresh S e es need cs).2.nx (w.drew.alloc (.cells (vs.toArray ++ tail) e)) := by
  have hmul : need * es + (cap - need) * es = cap * es := by rw [← Nat.add_mul]; congr 1; omega
  constructor
  · simp only [afresh, cvo, mset_self, Option.bind_some, Option.getD_none, Nat.sub_zero, Nat.mul_div_cancel _ h0]
    rw [if_pos ⟨hc, h0, by omega⟩]
    by_cases e0 : cap = 0 <;> simp [e0]
  · refine Step.new (blk := .cells e cs 0 false) hR hg hm rfl rfl rfl rfl (fun j b hj => T.get_put _ _ _ _ hj) (fun j hj => T.get_put_ne _ _ _ _ hj) ?_
    refine ⟨_, vs.toArray ++ tail, (0, 0), vs, mset_self _ _ _, (by show (w.heap.push _)[w.heap.size]? = _; simp), by simp; omega, by rw [← cvs_length hcs]; simp only; omega, cvs_mono (mset_ext hm) _ hcs, fun i v hv => ?_, fun i _ _ hh => by simp at hh, fun h => by cases h⟩
    have hi : i < vs.length := (List.getElem?_eq_some_iff.1 hv).1
    simp only [Nat.zero_add]
    rw [Array.getElem?_append_left (by simpa using hi)]
    simpa using hv
theorem grow_ok {g : Nat} {m : Map} {S : St} {w : World} (hR : R S.lk m w) (hg : g ≤ S.nx) (hm : m S.nx = none) {t tx e ty : TypeId} {i : TypeInfo} {z : AV} (ht : und P t = some (.slice e)) (hi : inf P e = some i) (hz : zero P e = some z) (hzl : (cel z).length = i.size) (h0 : i.size ≠ 0) (hby : i.bytes ≤ 65536)
    {xv : Value} {n : Nat} {news olds : List Value} {new old : List AV} (hs : Src P i.size tx xv n news w) (hnew : cvs m new = some news) (hold : cvs m old = some olds) (base : Option Addr) (ln c : Nat) (hlt : c < ln + n) (hsm : ln + n ≤ 1073741824) (holn : olds.length = ln * i.size)
    (hrun : (Builtin.firstCells i.size ln (.slice base ln c)).run P w.drew = .ok olds.toArray w.drew) :
    ∃ m' w' v, (Builtin.append_ #[t, tx] ty #[.slice base ln c, xv]).run P w = .ok v w' ∧ cvo m' (afresh S e i.size (ln + n) (old ++ new)).1 = some v ∧ Step g m S.lk S.nx w m' (afresh S e i.size (ln + n) (old ++ new)).2.lk (afresh S e i.size (ln + n) (old ++ new)).2.nx w' := by
  obtain ⟨v, hv, hrz⟩ := zero_ok hz m
  have hzz : ∃ zz, i.zero = some zz ∧ cvo m z = some zz := by
    unfold zero at hz
    simp only [hi] at hz
    split at hz
    · rename_i zz hzz; exact ⟨zz, hzz, konst_ok hz⟩
    · cases hz
  obtain ⟨zz, hzz, hcz⟩ := hzz
  have hzs : zz.cells.size = i.size := by rw [← Array.length_toList, cvs_length (cel_ok hcz), hzl]
  have hfit : Builtin.nextslicecap (ln + n) c * i.bytes ≤ 281474976710656 := by
    refine Nat.le_trans (Nat.mul_le_mul (nextslicecap_le hlt) hby) ?_
    omega
  have hr := run_append_grow_src (P := P) w t tx ty e i zz (und_ok ht) (inf_ok hi) hzz base ln c olds hrun xv n news hs hlt (by omega) hfit
  have hge := grownCap_ge w (ln + n) c e
  obtain ⟨f1, f2⟩ := fresh_ok (e := e) hR hg hm (cvs_append hold hnew) (need := ln + n) (es := i.size) (cap := grownCap w (ln + n) c e) (tail := Builtin.zeroCells zz.cells (grownCap w (ln + n) c e - (ln + n)))
    (by rw [List.length_append, holn, hs.newsLen, Nat.add_mul]) (by omega) hge (by rw [size_zeroCells, hzs])
  exact ⟨_, _, _, hr, f1, f2⟩
end
end Am
