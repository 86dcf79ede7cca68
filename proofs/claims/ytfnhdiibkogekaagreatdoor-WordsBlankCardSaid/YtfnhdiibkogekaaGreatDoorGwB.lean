/- Words in decimal digits (strconv.FormatUint at base 10), over the shelf's contracts. -/
import Derived.Test.YtfnhdiibkogekaaGreatDoorShelf
import Derived.Lib.AppendIntMem
import Derived.Test.YtfnhdiibkogekaaGreatDoorGwA
import Derived.Maps.AppendAt
import Derived.Deep.RegionLaw
set_option linter.unusedVariables false
set_option linter.unusedSimpArgs false
section
namespace Go.Proofs.YtfnhdiibkogekaaGreatDoor
open Go.Shelf Go.RowKit Go.Sort Go.Lib Vic

/-- what start-up code has laid: the table of powers of ten; a length -/
structure Tab (w : World) : Prop where
  pow : Lib.TabIs Tryz.prog w "internal/strconv.uint64pow10" .u64 Lib.pow10Tab
  maxLen : ∃ m : Int, w.cell? ⟨0, 0, none⟩ = some (.int .i64 m)
theorem Tab.keep {w w' : World} (h : Tab w) (hb : Below w.heap.size w w') : Tab w' :=
  ⟨Lib.tabBelow_of_tabIs h.pow w' hb, by obtain ⟨m, hm⟩ := h.maxLen; exact ⟨m, cell_keep hm hb⟩⟩

set_option maxHeartbeats 4000000 in
set_option maxRecDepth 100000 in
theorem internal_FormatUint (w : World) (u : Nat) (hu64 : u < 18446744073709551616) (htab : Tab w) :
    Calls Tryz.prog 265 #[.int .u64 u, .int .i64 10] w (Keeps (.string ⟨(Lib.decDigits u).toArray⟩) w) := by
  by_cases hs : u < 100
  · have CS := Lib.hid (Go.Proofs.Tryz.internal_strconv_small u hs w)
    have hs' : ((u : Nat) : Int) < 100 := by omega
    go_enter Tryz.func265, Tryz.ntmps265
    go_wp2_with fail
    refine CS.out.mono ?_
    rintro e w' ⟨rfl, rfl⟩
    go_wp2_with fail
    go_ret
    exact ⟨rfl, Below.refl _ _⟩
  · have hu1 : 1 ≤ u := by omega
    have hnd20 : Lib.nDigits u ≤ 20 := by have := Lib.numDigits_eq u hu1 hu64; split at this <;> omega
    have hnd1 := Lib.nDigits_pos u
    have hlen : Tryz.prog.arrayLen 353 = 24 := by kernel_rfl
    have hsl : ∀ W, (Instr.sliceAt 353 (.pointer (some ⟨w.heap.size, 0, none⟩)) none (some (.int .i64 (Lib.nDigits u : Int))) none).run Tryz.prog W = .ok (.slice (some ⟨w.heap.size, 0, none⟩) (Lib.nDigits u) 24) W := fun W => by
      rw [run_sliceAt_array_h W 353 ⟨w.heap.size, 0, none⟩ (by kernel_rfl) .i64 (Lib.nDigits u : Int) (by omega) (by rw [hlen]; omega)]
      go_simp
    have hH0 := Lib.holds_zero0 w 353 (Lib.nDigits u) (by omega)
    have hfmt := Go.Proofs.Tryz.internal_strconv_formatBase10 w.heap.size 0 24 u (Array.replicate (Lib.nDigits u) 0) (w.alloc (.cells Lib.zeros24 353)) hH0 (by rw [Array.size_replicate]; exact Lib.lt_pow_nDigits u) hu64 (by rw [Array.size_replicate]; omega)
    rw [Array.size_replicate] at hfmt
    have HH0 := Lib.hid hH0
    have HF := Lib.hid hfmt
    have CN := Lib.hid (Go.Proofs.Tryz.internal_strconv_numDigits u hu1 hu64 (w.alloc (.cells Lib.zeros24 353)) (Lib.tabIs_alloc htab.pow _))
    have iu : (100 : Int) ≤ (u : Int) := by omega
    clear hH0 hlen hfmt
    go_enter Tryz.func265, Tryz.ntmps265
    go_wp2_with fail
    refine CN.out.mono ?_
    rintro e w' ⟨rfl, rfl⟩
    go_wp2_with fail
    refine HF.out.mono ?_
    rintro e w' ⟨rfl, k, v', dk, rfl, hF⟩
    have hcv : (convert 41 9 (.slice (some ⟨w.heap.size, 0, none⟩) (Lib.nDigits u) 24)).run Tryz.prog ((putRow (fun (b : UInt8) => Value.int .u8 (b.toNat : Int)) (w.alloc (.cells Lib.zeros24 353)) w.heap.size 0 dk).drewN k) = .ok (.string ⟨(Lib.decDigits u).toArray⟩) ((putRow (fun (b : UInt8) => Value.int .u8 (b.toNat : Int)) (w.alloc (.cells Lib.zeros24 353)) w.heap.size 0 dk).drewN k) := by
      have h := run_convert_bytes_back (P := Tryz.prog) ((putRow (fun (b : UInt8) => Value.int .u8 (b.toNat : Int)) (w.alloc (.cells Lib.zeros24 353)) w.heap.size 0 dk).drewN k) 41 9 5 ⟨w.heap.size, 0, none⟩ 24 (Lib.decDigits u) (by kernel_rfl) (by kernel_rfl) (by kernel_rfl) (fun j hj => by
        rw [Lib.row_is_numeral hF j hj, Lib.add_plain, World.cell?_drewN]
        exact cell?_putRow (fun (b : UInt8) => Value.int .u8 (b.toNat : Int)) _ w.heap.size 0 _ dk HH0.out (by rw [hF.size, Array.size_replicate]) j (by rw [hF.size]; rw [Lib.decDigits_length] at hj; exact hj))
      rw [Lib.decDigits_length] at h
      exact h
    obtain ⟨os, eo⟩ := Lib.fin_at w (.cells Lib.zeros24 353) dk k 0
    have hb : Below w.heap.size w ((putRow (fun (b : UInt8) => Value.int .u8 (b.toNat : Int)) (w.alloc (.cells Lib.zeros24 353)) w.heap.size 0 dk).drewN k) := by rw [eo]; exact Lib.below_grow _ w (Nat.le_refl _) k os
    generalize (putRow (fun (b : UInt8) => Value.int .u8 (b.toNat : Int)) (w.alloc (.cells Lib.zeros24 353)) w.heap.size 0 dk).drewN k = W2 at *
    clear eo
    go_wp2_with fail
    go_ret
    exact ⟨rfl, hb⟩

theorem strconv_FormatUint (w : World) (u : Nat) (hu64 : u < 18446744073709551616) (htab : Tab w) :
    Calls Tryz.prog 215 #[.int .u64 u, .int .i64 10] w (Keeps (.string ⟨(Lib.decDigits u).toArray⟩) w) := by
  have CS := Lib.hid (internal_FormatUint w u hu64 htab)
  go_enter Tryz.func215, Tryz.ntmps215
  go_wp2_with fail
  refine CS.out.mono ?_
  rintro e w' ⟨rfl, hb⟩
  go_wp2_with fail
  go_ret
  exact ⟨rfl, hb⟩
end Go.Proofs.YtfnhdiibkogekaaGreatDoor
end
section
namespace Go.Proofs.YtfnhdiibkogekaaGreatDoor
open Go.Shelf Go.RowKit Vic

theorem strings_CutPrefix (w : World) (s p : List UInt8) :
    Calls Tryz.prog 181 #[.string ⟨s.toArray⟩, .string ⟨p.toArray⟩] w (Rets (.tuple #[.string ⟨(Lib.trimPrefix s p).toArray⟩, .bool (Lib.hasPrefix s p)]) w) := by
  refine (Go.Proofs.Tryz.strings_CutPrefix ⟨s.toArray⟩ ⟨p.toArray⟩ w).mono ?_
  rintro e w' ⟨rfl, rfl⟩
  exact ⟨rfl, rfl⟩
theorem strings_Cut (w : World) (ht : Tab w) (s p : List UInt8) (hs : s.length < 4294967281) :
    Calls Tryz.prog 28 #[.string ⟨s.toArray⟩, .string ⟨p.toArray⟩] w (Keeps (.tuple #[.string ⟨(Lib.cut s p).1.toArray⟩, .string ⟨(Lib.cut s p).2.1.toArray⟩, .bool (Lib.cut s p).2.2]) w) := by
  obtain ⟨m, hm⟩ := ht.maxLen
  refine (Go.Proofs.Tryz.strings_Cut ⟨s.toArray⟩ ⟨p.toArray⟩ m w (by show s.toArray.size < _; simpa using hs) hm).mono ?_
  rintro e w' ⟨rfl, n, rfl⟩
  exact ⟨rfl, Vic.Below.drewN_ (Below.refl _ _) _⟩
end Go.Proofs.YtfnhdiibkogekaaGreatDoor
end
section
namespace Vic
open Go Go.RowKit

/-- a slice of one's own: nil, or the first cells of a block that lies from base on, all of whose cells are of the kind -/
def OwnK (Kd : Value → Prop) (w : World) (base : Nat) (e : TypeId) (size : Nat) (v : Value) (n : Nat) (xs : List Value) : Prop :=
  xs.length = n * size ∧
  ((v = .slice none 0 0 ∧ n = 0) ∨
   ∃ g cap cur, v = .slice (some ⟨g, 0, none⟩) n cap ∧ base ≤ g ∧ w.heap[g]? = some (.cells cur e (0, 0)) ∧ n ≤ cap ∧ cap ≤ maxLen ∧ cur.size = cap * size ∧ cur.toList.take (n * size) = xs ∧ ∀ u ∈ cur, Kd u)

theorem OwnK.own {Kd : Value → Prop} {w : World} {base : Nat} {e : TypeId} {size : Nat} {v : Value} {n : Nat} {xs : List Value} (h : OwnK Kd w base e size v n xs) : w.ownsRow base e size v n xs := by
  obtain ⟨h1, h2 | ⟨g, cap, cur, a1, a2, a3, a4, a5, a6, a7, _⟩⟩ := h
  · exact ⟨h1, .inl h2⟩
  · exact ⟨h1, .inr ⟨g, cap, cur, a1, a2, a3, a4, a5, a6, a7⟩⟩
theorem OwnK.nil_ (Kd : Value → Prop) (w : World) (base : Nat) (e : TypeId) (size : Nat) : OwnK Kd w base e size (.slice none 0 0) 0 [] := ⟨by simp, .inl ⟨rfl, rfl⟩⟩
/-- what turns other blocks alone leaves it -/
theorem OwnK.stay {Kd : Value → Prop} {w w' : World} {base : Nat} {e : TypeId} {size : Nat} {v : Value} {n : Nat} {xs : List Value} (h : OwnK Kd w base e size v n xs) (hs : ∀ g, v.ownBlock = some g → w'.heap[g]? = w.heap[g]?) : OwnK Kd w' base e size v n xs := by
  obtain ⟨h1, h2 | ⟨g, cap, cur, rfl, a2, a3, a4⟩⟩ := h
  · exact ⟨h1, .inl h2⟩
  · exact ⟨h1, .inr ⟨g, cap, cur, rfl, a2, by rw [hs g rfl]; exact a3, a4⟩⟩
theorem OwnK.lt {Kd : Value → Prop} {w : World} {base : Nat} {e : TypeId} {size : Nat} {v : Value} {n : Nat} {xs : List Value} (h : OwnK Kd w base e size v n xs) {g : Nat} (hg : v.ownBlock = some g) : base ≤ g ∧ g < w.heap.size := by
  obtain ⟨h1, ⟨rfl, _⟩ | ⟨g', cap, cur, rfl, a2, a3, a4⟩⟩ := h
  · cases hg
  · injection hg with hg
    subst hg
    refine ⟨a2, ?_⟩
    rcases Nat.lt_or_ge g' w.heap.size with h | h
    · exact h
    · rw [Array.getElem?_eq_none h] at a3; cases a3
theorem OwnK.keep {Kd : Value → Prop} {w w' : World} {base : Nat} {e : TypeId} {size : Nat} {v : Value} {n : Nat} {xs : List Value} (h : OwnK Kd w base e size v n xs) (hb : Below w.heap.size w w') : OwnK Kd w' base e size v n xs :=
  h.stay fun g hg => hb.block g (h.lt hg).2
theorem OwnK.kind {Kd : Value → Prop} {w : World} {base : Nat} {e : TypeId} {size : Nat} {v : Value} {n : Nat} {xs : List Value} (h : OwnK Kd w base e size v n xs) {g : Nat} (hg : v.ownBlock = some g) {o : Nat} {u : Value} (hc : w.cell? ⟨g, o, none⟩ = some u) : Kd u := by
  obtain ⟨h1, ⟨rfl, _⟩ | ⟨g', cap, cur, rfl, a2, a3, a4, a5, a6, a7, a8⟩⟩ := h
  · cases hg
  · cases hg
    simp only [World.cell?, a3] at hc
    exact a8 u (Array.mem_of_getElem? hc)

theorem OwnK.shape {Kd : Value → Prop} {w : World} {base : Nat} {e : TypeId} {size : Nat} {v : Value} {n : Nat} {xs : List Value} (h : OwnK Kd w base e size v n xs) (h0 : 0 < n) : ∃ g cap, v = .slice (some ⟨g, 0, none⟩) n cap := by
  obtain ⟨_, ⟨_, h1⟩ | ⟨g, cap, cur, rfl, _⟩⟩ := h
  · omega
  · exact ⟨g, cap, rfl⟩
theorem mem_zeroCells {z : Array Value} {n : Nat} {u : Value} (h : u ∈ Builtin.zeroCells z n) : u ∈ z := by
  unfold Builtin.zeroCells at h
  obtain ⟨i, hi, rfl⟩ := Array.mem_map.1 h
  have hz : 0 < z.size := by
    rcases Nat.eq_zero_or_pos z.size with h0 | h0
    · rw [h0] at hi; simp at hi
    · exact h0
  have hlt : i % z.size < z.size := Nat.mod_lt _ hz
  rw [getElem!_pos z (i % z.size) hlt]
  exact Array.getElem_mem hlt

theorem OwnK.append {P : Program} {Kd : Value → Prop} {w : World} {base : Nat} {t ty e : TypeId} {i : TypeInfo} {z : Value} {size : Nat} (ht : P.underlying t = some (.slice e)) (hi : P.info? e = some i) (hz : i.zero = some z)
    (hsize : i.size = size) (hzs : z.cells.size = size) (hsz : 0 < size)
    {v : Value} {n : Nat} {xs : List Value} (hown : OwnK Kd w base e size v n xs)
    (a : Addr) (m c : Nat) (news : List Value) (hl : news.length = m * size) (hnews : ∀ j u, news[j]? = some u → w.cell? (a.add j) = some u) (h1 : ∀ u ∈ news, u.oneCell' = true)
    (hk : ∀ u ∈ news, Kd u) (hkz : ∀ u ∈ z.cells, Kd u) (h0 : 0 < m)
    (h63 : n + m ≤ maxLen) (hbytes : (n + m) * i.bytes ≤ 140737488355328) (hbase : base ≤ w.heap.size) :
    ∃ v' w', (Builtin.append_ #[t, t] ty #[v, .slice (some a) m c]).run P w = .ok v' w' ∧ OwnK Kd w' base e size v' (n + m) (xs ++ news) ∧ w.grownBy w' v.ownBlock ∧ (v'.ownBlock = v.ownBlock ∨ v'.ownBlock = some w.heap.size) := by
  subst hsize
  have hsmall : n + m ≤ 9223372036854775807 := by simp only [maxLen] at h63; omega
  have hlen : (xs ++ news).length = (n + m) * i.size := by rw [List.length_append, hown.1, hl, Nat.add_mul]
  have grown : ∀ (old : Nat), (∀ u ∈ xs, Kd u) → ∀ (row : Option Nat),
      OwnK Kd (w.drew.alloc (.cells (xs.toArray ++ news.toArray ++ Builtin.zeroCells z.cells (grownCap w (n + m) old e - (n + m))) e)) base e i.size
        (.slice (some ⟨w.heap.size, 0, none⟩) (n + m) (grownCap w (n + m) old e)) (n + m) (xs ++ news) ∧
      w.grownBy (w.drew.alloc (.cells (xs.toArray ++ news.toArray ++ Builtin.zeroCells z.cells (grownCap w (n + m) old e - (n + m))) e)) row := by
    intro old hxs row
    have hge := grownCap_ge w (n + m) old e
    have hcm : grownCap w (n + m) old e ≤ maxLen := grownCap_le_maxLen w (n + m) old e h63
    refine ⟨⟨hlen, .inr ⟨w.heap.size, _, _, rfl, hbase, heap_alloc_new w.drew _, hge, hcm, ?_, ?_, ?_⟩⟩, ⟨rfl, rfl, rfl, by simp, fun k hk _ => Below.heap_alloc w.drew _ k hk⟩⟩
    · simp only [Array.size_append, List.size_toArray, size_zeroCells, hzs, hown.1, hl, ← Nat.add_mul]
      congr 1
      omega
    · simp only [Array.toList_append, List.append_assoc]
      rw [← List.append_assoc, ← hlen]
      exact List.take_left
    · intro u hu
      rcases Array.mem_append.1 hu with hu | hu
      · rcases Array.mem_append.1 hu with hu | hu
        · exact hxs u (by simpa using hu)
        · exact hk u (by simpa using hu)
      · exact hkz u (mem_zeroCells hu)
  rcases hown.2 with ⟨rfl, rfl⟩ | ⟨g, cap, cur, rfl, hbg, hg, hnc, hcm, hcs, htake, hkd⟩
  · have hx : xs = [] := List.eq_nil_of_length_eq_zero (by simpa using hown.1)
    subst hx
    have hr := run_append_nil (P := P) w t ty e i z ht hi hz a m c news hl hnews (by omega) (by omega) (by have hb := hbytes; simp only [Nat.zero_add] at hb; omega)
    have hgr := grown 0 (by simp) (Value.ownBlock (.slice none 0 0))
    simp only [Nat.zero_add, List.nil_append, Array.empty_append] at hgr ⊢
    exact ⟨_, _, hr, hgr.1, hgr.2, Or.inr rfl⟩
  · have hxk : ∀ u ∈ xs, Kd u := fun u hu => hkd u (by
      rw [← htake] at hu
      have := List.mem_of_mem_take hu
      simpa using this)
    by_cases hroom : n + m ≤ cap
    · have hfit : n * i.size + news.length ≤ cur.size := by rw [hl, hcs, ← Nat.add_mul]; exact Nat.mul_le_mul_right _ hroom
      have hr := run_append_room (P := P) w t ty e i ht hi g n cap cur hg a m c news hl hnews h1 hroom hfit
      refine ⟨_, _, hr, ⟨hlen, .inr ⟨g, cap, _, rfl, hbg, setRow_heap w g cur _ e _ hg, hroom, hcm, ?_, ?_, ?_⟩⟩, ⟨rfl, rfl, rfl, by simp, fun k _ hk => setRow_other w g k _ (fun e => hk (by simp [Value.ownBlock, e]))⟩, Or.inl rfl⟩
      · simp only [List.size_toArray, List.length_append, List.length_take, List.length_drop, Array.length_toList]
        omega
      · rw [htake, ← hlen]
        show List.take (xs ++ news).length (xs ++ news ++ _) = _
        exact List.take_left
      · intro u hu
        have hu' : u ∈ cur.toList.take (n * i.size) ++ news ++ cur.toList.drop (n * i.size + news.length) := by simpa using hu
        rcases List.mem_append.1 hu' with hu | hu
        · rcases List.mem_append.1 hu with hu | hu
          · exact hkd u (by have := List.mem_of_mem_take hu; simpa using this)
          · exact hk u hu
        · exact hkd u (by have := List.mem_of_mem_drop hu; simpa using this)
    · have holds : ∀ j u, xs[j]? = some u → w.cell? ((⟨g, 0, none⟩ : Addr).add j) = some u := hown.own.cells (g := g) rfl
      have hr := run_append_grow (P := P) w t ty e i z ht hi hz ⟨g, 0, none⟩ n cap xs hown.1 holds a m c news hl hnews (by omega) (by omega) (growslice_fits (by omega) hbytes)
      have hgr := grown cap hxk (Value.ownBlock (.slice (some ⟨g, 0, none⟩) n cap))
      exact ⟨_, _, hr, hgr.1, hgr.2, Or.inr rfl⟩

/-- at the walk's list -/
theorem wpList_append_ownK {P : Program} {Kd : Value → Prop} {ops : Array Oper} {rest : List Oper} {o : Oper} {a : Act} {w : World} {Q : Exit → Act → World → Prop} (hgd : o.guard = none) (s x : Operand) (t : TypeId)
    (ho : o.op = .call { callee := .builtin .append, args := #[s, x], argTypes := #[t, t] }) (base : Nat) (e : TypeId) (i : TypeInfo) (z : Value) (size : Nat) (ht : P.underlying t = some (.slice e)) (hi : P.info? e = some i) (hz : i.zero = some z)
    (hsize : i.size = size) (hzs : z.cells.size = size) (hsz : 0 < size) (v : Value) (n : Nat) (xs : List Value) (hs : a.eval s = v) (hown : OwnK Kd w base e size v n xs)
    (ad : Addr) (m c : Nat) (news : List Value) (hx : a.eval x = .slice (some ad) m c) (hl : news.length = m * size) (hnews : ∀ j u, news[j]? = some u → w.cell? (ad.add j) = some u) (h1 : ∀ u ∈ news, u.oneCell' = true)
    (hk : ∀ u ∈ news, Kd u) (hkz : ∀ u ∈ z.cells, Kd u) (h0 : 0 < m) (h63 : n + m ≤ maxLen) (hbytes : (n + m) * i.bytes ≤ 140737488355328) (hbase : base ≤ w.heap.size)
    (h : ∀ v' w', OwnK Kd w' base e size v' (n + m) (xs ++ news) → w.grownBy w' v.ownBlock → (v'.ownBlock = v.ownBlock ∨ v'.ownBlock = some w.heap.size) → wpList P ops Q rest (a.put o.dst v') w') : wpList P ops Q (o :: rest) a w := by
  refine wpList_plain hgd fun K hK => ?_
  obtain ⟨v', w', hrun, h2, h3, h4⟩ := OwnK.append (P := P) (ty := o.type) ht hi hz hsize hzs hsz hown ad m c news hl hnews h1 hk hkz h0 h63 hbytes hbase
  unfold Oper.wp execOp
  simp only [ho, resolve, invoke, builtin, Sem.run_bind, Sem.run_pure, Result.andThen_ok, List.map_toArray, List.map_cons, List.map_nil, hs, hx, hrun]
  exact hK _ _ (h v' w' h2 h3 h4)
/-- at a step of a region that draws -/
theorem step_append_ownK {P : Program} {Kd : Value → Prop} {ops : Array Oper} {o : Oper} {a : Act} {w : World} {K : Act → World → Prop} {Q : Exit → Act → World → Prop} {E : Prop} (hgd : o.guard = none) (s x : Operand) (t : TypeId)
    (ho : o.op = .call { callee := .builtin .append, args := #[s, x], argTypes := #[t, t] }) (base : Nat) (e : TypeId) (i : TypeInfo) (z : Value) (size : Nat) (ht : P.underlying t = some (.slice e)) (hi : P.info? e = some i) (hz : i.zero = some z)
    (hsize : i.size = size) (hzs : z.cells.size = size) (hsz : 0 < size) (v : Value) (n : Nat) (xs : List Value) (hs : a.eval s = v) (hown : OwnK Kd w base e size v n xs)
    (ad : Addr) (m c : Nat) (news : List Value) (hx : a.eval x = .slice (some ad) m c) (hl : news.length = m * size) (hnews : ∀ j u, news[j]? = some u → w.cell? (ad.add j) = some u) (h1 : ∀ u ∈ news, u.oneCell' = true)
    (hk : ∀ u ∈ news, Kd u) (hkz : ∀ u ∈ z.cells, Kd u) (h0 : 0 < m) (h63 : n + m ≤ maxLen) (hbytes : (n + m) * i.bytes ≤ 140737488355328) (hbase : base ≤ w.heap.size)
    (h : ∀ v' w', OwnK Kd w' base e size v' (n + m) (xs ++ news) → w.grownBy w' v.ownBlock → (v'.ownBlock = v.ownBlock ∨ v'.ownBlock = some w.heap.size) → K (a.put o.dst v') w') :
    if Region.wanted o (yielded ops a.tmps) = true then Oper.wp P o a w K Q else E := by
  have hw : Region.wanted o (yielded ops a.tmps) = true := by simp [Region.wanted, hgd]
  rw [if_pos hw]
  obtain ⟨v', w', hrun, h2, h3, h4⟩ := OwnK.append (P := P) (ty := o.type) ht hi hz hsize hzs hsz hown ad m c news hl hnews h1 hk hkz h0 h63 hbytes hbase
  unfold Oper.wp execOp
  simp only [ho, resolve, invoke, builtin, Sem.run_bind, Sem.run_pure, Result.andThen_ok, List.map_toArray, List.map_cons, List.map_nil, hs, hx, hrun]
  exact h v' w' h2 h3 h4
end Vic
end
section
namespace Vic
open Go Go.RowKit

/-- a row of one's own, whatever its cells -/
abbrev Own (w : World) (B : Nat) (e : TypeId) (size : Nat) (v : Value) (n : Nat) (xs : List Value) : Prop := OwnK (fun _ => True) w B e size v n xs
theorem OwnK.typed {Kd : Value → Prop} {w : World} {B : Nat} {e : TypeId} {size : Nat} {v : Value} {n : Nat} {xs : List Value} (h : OwnK Kd w B e size v n xs) {g : Nat} (hg : v.ownBlock = some g) : ∃ cur, w.heap[g]? = some (.cells cur e (0, 0)) := by
  obtain ⟨_, ⟨rfl, _⟩ | ⟨g', cap, cur, rfl, a2, a3, _⟩⟩ := h
  · cases hg
  · cases hg; exact ⟨cur, a3⟩
theorem OwnK.sl {Kd : Value → Prop} {w : World} {B : Nat} {e : TypeId} {size : Nat} {v : Value} {n : Nat} {xs : List Value} (h : OwnK Kd w B e size v n xs) : ∃ A c, v = .slice A n c ∧ n ≤ c ∧ ∀ j u, xs[j]? = some u → ∃ g, A = some ⟨g, 0, none⟩ ∧ w.cell? ⟨g, j, none⟩ = some u := by
  obtain ⟨hl, ⟨rfl, rfl⟩ | ⟨g, cap, cur, rfl, a2, a3, a4, a5, a6, a7, _⟩⟩ := h
  · refine ⟨none, 0, rfl, Nat.le_refl _, fun j u hj => ?_⟩
    have : xs = [] := List.eq_nil_of_length_eq_zero (by simpa using hl)
    subst this; simp at hj
  · refine ⟨_, _, rfl, a4, fun j u hj => ⟨g, rfl, ?_⟩⟩
    rw [← a7] at hj
    have hj' := (List.getElem?_eq_some_iff.1 hj).1
    rw [List.length_take] at hj'
    rw [List.getElem?_take] at hj
    split at hj
    · simpa [World.cell?, a3] using hj
    · cases hj
theorem OwnK.alloc {Kd : Value → Prop} {w : World} {B : Nat} {e : TypeId} {size : Nat} {v : Value} {n : Nat} {xs : List Value} (h : OwnK Kd w B e size v n xs) (o : Obj) : OwnK Kd (w.alloc o) B e size v n xs :=
  h.keep ((Below.refl _ _).alloc (Nat.le_refl _) _)
/-- a store into a row of one's own -/
theorem OwnK.store {Kd : Value → Prop} {w : World} {B : Nat} {e : TypeId} {size : Nat} {v : Value} {n : Nat} {xs : List Value} (h : OwnK Kd w B e size v n xs) {g : Nat} (hg : v.ownBlock = some g) (i : Nat) (u : Value) (hi : i < xs.length) (hk : Kd u) :
    OwnK Kd (w.setCell ⟨g, i, none⟩ u) B e size v n (xs.set i u) := by
  obtain ⟨hl, ⟨rfl, rfl⟩ | ⟨g', cap, cur, rfl, a2, a3, a4, a5, a6, a7, a8⟩⟩ := h
  · cases hg
  · injection hg with hg
    subst hg
    refine ⟨by simpa using hl, .inr ⟨g', cap, cur.setIfInBounds i u, rfl, a2, ?_, a4, a5, by simpa using a6, ?_, fun x hx => ?_⟩⟩
    · simp [World.setCell, Array.getElem?_modify, a3]
    · rw [Array.toList_setIfInBounds, ← a7, List.take_set]
    · rcases Array.mem_or_eq_of_mem_setIfInBounds hx with h1 | h1
      · exact a8 x h1
      · subst h1; exact hk

variable {ι : Type}
structure OwnF (w : World) (B : Nat) (e : TypeId) (size : Nat) (dom : ι → Prop) (v : ι → Value) (n : ι → Nat) (xs : ι → List Value) : Prop where
  own : ∀ i, dom i → Own w B e size (v i) (n i) (xs i)
  apart : ∀ i j g, dom i → dom j → (v i).ownBlock = some g → (v j).ownBlock = some g → i = j
theorem OwnF.stay {w w' : World} {B : Nat} {e : TypeId} {size : Nat} {dom : ι → Prop} {v : ι → Value} {n : ι → Nat} {xs : ι → List Value} (h : OwnF w B e size dom v n xs) (hs : ∀ i g, dom i → (v i).ownBlock = some g → w'.heap[g]? = w.heap[g]?) : OwnF w' B e size dom v n xs :=
  ⟨fun i hi => (h.own i hi).stay fun g hg => hs i g hi hg, h.apart⟩
theorem OwnF.keep {w w' : World} {B : Nat} {e : TypeId} {size : Nat} {dom : ι → Prop} {v : ι → Value} {n : ι → Nat} {xs : ι → List Value} (h : OwnF w B e size dom v n xs) (hb : Below w.heap.size w w') : OwnF w' B e size dom v n xs :=
  h.stay fun i g hi hg => hb.block g ((h.own i hi).lt hg).2
/-- what is of another type stays as it was -/
theorem OwnF.other {w w' : World} {B : Nat} {e : TypeId} {size : Nat} {dom : ι → Prop} {v : ι → Value} {n : ι → Nat} {xs : ι → List Value} (h : OwnF w B e size dom v n xs) (hs : ∀ (g : Nat) (cur : Array Value), w.heap[g]? = some (Obj.cells cur e (0, 0)) → w'.heap[g]? = w.heap[g]?) : OwnF w' B e size dom v n xs :=
  h.stay fun i g hi hg => by obtain ⟨cur, hc⟩ := (h.own i hi).typed hg; exact hs g cur hc
/-- one of them is appended to -/
theorem OwnF.app [DecidableEq ι] {w w' : World} {B : Nat} {e : TypeId} {size : Nat} {dom : ι → Prop} {v : ι → Value} {n : ι → Nat} {xs : ι → List Value} (h : OwnF w B e size dom v n xs) (i : ι) (hi : dom i) {v' : Value} {n' : Nat} {ys : List Value}
    (ho : Own w' B e size v' n' ys) (hg : w.grownBy w' (v i).ownBlock) (hl : v'.ownBlock = (v i).ownBlock ∨ v'.ownBlock = some w.heap.size) :
    OwnF w' B e size dom (fun j => if j = i then v' else v j) (fun j => if j = i then n' else n j) (fun j => if j = i then ys else xs j) := by
  constructor
  · intro j hj
    by_cases e : j = i
    · simp only [e, if_true]; exact ho
    · simp only [e, if_false]
      refine (h.own j hj).stay fun g hgj => hg.block g ((h.own j hj).lt hgj).2 (fun e2 => e ?_)
      exact h.apart j i g hj hi hgj e2.symm
  · intro a b g ha hb h1 h2
    by_cases ea : a = i
    · by_cases eb : b = i
      · rw [ea, eb]
      · simp only [ea, eb, if_true, if_false] at h1 h2
        rcases hl with hl | hl
        · exact absurd (h.apart b i g hb hi h2 (hl ▸ h1)) eb
        · have := ((h.own b hb).lt h2).2
          rw [hl] at h1; injection h1; omega
    · by_cases eb : b = i
      · simp only [ea, eb, if_true, if_false] at h1 h2
        rcases hl with hl | hl
        · exact absurd (h.apart a i g ha hi h1 (hl ▸ h2)) ea
        · have := ((h.own a ha).lt h1).2
          rw [hl] at h2; injection h2; omega
      · simp only [ea, eb, if_false] at h1 h2
        exact h.apart a b g ha hb h1 h2
/-- one more, of nothing -/
theorem OwnF.more [DecidableEq ι] {w : World} {B : Nat} {e : TypeId} {size : Nat} {dom dom' : ι → Prop} {v : ι → Value} {n : ι → Nat} {xs : ι → List Value} (h : OwnF w B e size dom v n xs) (i : ι) (hd : ∀ j, dom' j → j = i ∨ dom j) :
    OwnF w B e size dom' (fun j => if j = i then .slice none 0 0 else v j) (fun j => if j = i then 0 else n j) (fun j => if j = i then [] else xs j) := by
  constructor
  · intro j hj
    by_cases e : j = i
    · simp only [e, if_true]; exact OwnK.nil_ _ _ _ _ _
    · simp only [e, if_false]
      exact h.own j ((hd j hj).resolve_left e)
  · intro a b g ha hb h1 h2
    by_cases ea : a = i
    · simp only [ea, if_true] at h1; cases h1
    · by_cases eb : b = i
      · simp only [eb, if_true] at h2; cases h2
      · simp only [ea, eb, if_false] at h1 h2
        exact h.apart a b g ((hd a ha).resolve_left ea) ((hd b hb).resolve_left eb) h1 h2
theorem OwnF.none_ (w : World) (B : Nat) (e : TypeId) (size : Nat) (v : ι → Value) (n : ι → Nat) (xs : ι → List Value) : OwnF w B e size (fun _ => False) v n xs := ⟨fun i h => h.elim, fun i j g h => h.elim⟩
theorem OwnF.sub {w : World} {B : Nat} {e : TypeId} {size : Nat} {dom dom' : ι → Prop} {v v' : ι → Value} {n n' : ι → Nat} {xs xs' : ι → List Value} (h : OwnF w B e size dom v n xs) (hd : ∀ i, dom' i → dom i ∧ v' i = v i ∧ n' i = n i ∧ xs' i = xs i) : OwnF w B e size dom' v' n' xs' :=
  ⟨fun i hi => by obtain ⟨a, b, c, d⟩ := hd i hi; rw [b, c, d]; exact h.own i a, fun i j g hi hj h1 h2 => h.apart i j g (hd i hi).1 (hd j hj).1 ((hd i hi).2.1 ▸ h1) ((hd j hj).2.1 ▸ h2)⟩
end Vic
end
section
namespace Vic
open Go Go.RowKit

/-- a slice whose elements, of so many cells each, are those of a list -/
def SlIn {α : Type} (R : World → Nat → Nat → α → Prop) (size : Nat) (w : World) (v : Value) (l : List α) : Prop :=
  ∃ A c, v = .slice A l.length c ∧ l.length ≤ c ∧ ∀ (i : Nat) (x : α), l[i]? = some x → ∃ g o, A = some ⟨g, o, none⟩ ∧ R w g (o + i * size) x
/-- what stands under a change that leaves what was there -/
def Firm {α : Type} (R : World → Nat → Nat → α → Prop) : Prop := ∀ w w' g o x, R w g o x → Below w.heap.size w w' → R w' g o x
theorem SlIn.keep {α : Type} {R : World → Nat → Nat → α → Prop} (hR : Firm R) {size : Nat} {w w' : World} {v : Value} {l : List α} (h : SlIn R size w v l) (hb : Below w.heap.size w w') : SlIn R size w' v l := by
  obtain ⟨A, c, h1, h2, h3⟩ := h
  refine ⟨A, c, h1, h2, fun i x hx => ?_⟩
  obtain ⟨g, o, h4, h5⟩ := h3 i x hx
  exact ⟨g, o, h4, hR _ _ _ _ _ h5 hb⟩
theorem SlIn.nil_ {α : Type} (R : World → Nat → Nat → α → Prop) (size : Nat) (w : World) : SlIn R size w (.slice none 0 0) [] := ⟨none, 0, rfl, Nat.le_refl _, fun i x hx => by simp at hx⟩
theorem SlIn.imp {α : Type} {R S : World → Nat → Nat → α → Prop} {size : Nat} {w w' : World} {v : Value} {l : List α} (h : SlIn R size w v l) (k : ∀ g o x, x ∈ l → R w g o x → S w' g o x) : SlIn S size w' v l := by
  obtain ⟨A, c, h1, h2, h3⟩ := h
  refine ⟨A, c, h1, h2, fun i x hx => ?_⟩
  obtain ⟨g, o, h4, h5⟩ := h3 i x hx
  exact ⟨g, o, h4, k _ _ _ (List.mem_of_getElem? hx) h5⟩

theorem SlIn.imp_at {α : Type} {R S : World → Nat → Nat → α → Prop} {size : Nat} {w w' : World} {a : Option Addr} {n c : Nat} {l : List α} (h : SlIn R size w (.slice a n c) l) (k : ∀ g o x, a = some ⟨g, o, none⟩ → ∀ j, R w g (o + j) x → S w' g (o + j) x) : SlIn S size w' (.slice a n c) l := by
  obtain ⟨A, c', h1, h2, h3⟩ := h
  refine ⟨A, c', h1, h2, fun i x hx => ?_⟩
  obtain ⟨g, o, h4, h5⟩ := h3 i x hx
  injection h1 with h1 _ _
  exact ⟨g, o, h4, k _ _ _ (h1.trans h4) _ h5⟩

def StrR (w : World) (g o : Nat) (s : Txt) : Prop := w.cell? ⟨g, o, none⟩ = some (.string ⟨s.toArray⟩)
theorem StrR.firm : Firm StrR := fun _ _ _ _ _ h hb => cell_keep h hb
abbrev StrsIn (w : World) (v : Value) (l : List Txt) : Prop := SlIn StrR 1 w v l
def LineR (w : World) (g o : Nat) (x : LineM) : Prop := ∃ v, w.cell? ⟨g, o, none⟩ = some (.int .i64 (x.no : Nat)) ∧ w.cell? ⟨g, o + 1, none⟩ = some (.bool x.head) ∧ w.cell? ⟨g, o + 2, none⟩ = some v ∧ StrsIn w v x.words
theorem LineR.firm : Firm LineR := fun _ _ _ _ _ ⟨v, h1, h2, h3, h4⟩ hb => ⟨v, cell_keep h1 hb, cell_keep h2 hb, cell_keep h3 hb, h4.keep StrR.firm hb⟩
abbrev LinesIn (w : World) (v : Value) (l : List LineM) : Prop := SlIn LineR 3 w v l


/-! what a row of one's own holds, element by element -/
theorem fl_get {α : Type} {enc : α → List Value} {size : Nat} (he : ∀ x, (enc x).length = size) : ∀ {l : List α} {i : Nat} {x : α} {k : Nat}, l[i]? = some x → k < size → (l.flatMap enc)[i * size + k]? = (enc x)[k]?
  | [], i, x, k, h, _ => by simp at h
  | y :: l, 0, x, k, h, hk => by
    simp only [List.getElem?_cons_zero, Option.some.injEq] at h
    subst h
    rw [List.flatMap_cons, Nat.zero_mul, Nat.zero_add, List.getElem?_append_left (by rw [he]; exact hk)]
  | y :: l, i + 1, x, k, h, hk => by
    have ih := fl_get he (l := l) (i := i) (x := x) (k := k) (by simpa using h) hk
    rw [List.flatMap_cons, List.getElem?_append_right (by rw [he, Nat.add_mul]; omega), he, ← ih]
    congr 1
    rw [Nat.add_mul]; omega
theorem fl_len {α : Type} {enc : α → List Value} {size : Nat} (he : ∀ x, (enc x).length = size) : ∀ (l : List α), (l.flatMap enc).length = l.length * size
  | [] => by simp
  | y :: l => by rw [List.flatMap_cons, List.length_append, he, fl_len he l, List.length_cons, Nat.add_mul]; omega
theorem OwnK.slIn {α : Type} {Kd : Value → Prop} {enc : α → List Value} {size : Nat} (he : ∀ x, (enc x).length = size) {R : World → Nat → Nat → α → Prop} {w : World} {B : Nat} {e : TypeId} {v : Value} {l : List α} (h : OwnK Kd w B e size v l.length (l.flatMap enc))
    (hR : ∀ g i x, l[i]? = some x → (∀ k u, (enc x)[k]? = some u → w.cell? ⟨g, i * size + k, none⟩ = some u) → R w g (i * size) x) : SlIn R size w v l := by
  obtain ⟨A, c, h1, h2, h3⟩ := h.sl
  refine ⟨A, c, h1, h2, fun i x hx => ?_⟩
  have hcell : ∀ k u, (enc x)[k]? = some u → ∃ g, A = some ⟨g, 0, none⟩ ∧ w.cell? ⟨g, i * size + k, none⟩ = some u := fun k u hu => by
    have hk : k < size := by rw [← he x]; exact (List.getElem?_eq_some_iff.1 hu).1
    exact h3 _ u (by rw [fl_get he hx hk]; exact hu)
  obtain ⟨_, ⟨hv, h0⟩ | ⟨g, cap, cur, hv, _⟩⟩ := h
  · have : l = [] := List.eq_nil_of_length_eq_zero h0
    subst this; simp at hx
  · rw [h1] at hv
    injection hv with hA _ _
    refine ⟨g, 0, hA, ?_⟩
    rw [Nat.zero_add]
    refine hR g i x hx fun k u hu => ?_
    obtain ⟨g', hg', hc⟩ := hcell k u hu
    rw [hA] at hg'
    injection hg' with hg'
    injection hg' with hg'
    rw [hg']; exact hc
end Vic
end
section
namespace Vic
open Go Go.RowKit
/-- a text in a block of texts -/
def StrTy (w : World) (g o : Nat) (s : Txt) : Prop := (∃ cur fr, w.heap[g]? = some (.cells cur 9 fr)) ∧ StrR w g o s
theorem StrTy.firm : Firm StrTy := fun w w' g o x ⟨⟨cur, fr, h⟩, k⟩ hb => ⟨⟨cur, fr, (hb.block g (block_lt k)).trans h⟩, StrR.firm _ _ _ _ _ k hb⟩
abbrev StrsTy (w : World) (v : Value) (l : List Txt) : Prop := SlIn StrTy 1 w v l
theorem StrsTy.strs {w : World} {v : Value} {l : List Txt} (h : StrsTy w v l) : StrsIn w v l := h.imp fun _ _ _ _ h => h.2
end Vic
namespace Go.Proofs.YtfnhdiibkogekaaGreatDoor
open Go.Shelf Go.RowKit Vic

theorem strings_TrimSuffix (w : World) (s p : List UInt8) (hs : s.length ≤ 9223372036854775807) :
    Calls Tryz.prog 83 #[.string ⟨s.toArray⟩, .string ⟨p.toArray⟩] w (Rets (.string ⟨(Lib.trimSuffix s p).toArray⟩) w) := by
  refine (Go.Proofs.Tryz.strings_TrimSuffix (s := ⟨s.toArray⟩) (p := ⟨p.toArray⟩) (hs := by show s.toArray.size ≤ _; simpa using hs) (w := w)).mono ?_
  rintro e w' ⟨rfl, rfl⟩
  exact ⟨rfl, rfl⟩
theorem blank_c1 (x : Nat) (hx : x ≤ 1114111) (w : World) : Calls Tryz.prog 31 #[.int .i32 (x : Int)] w (Rets (.bool (blankR x)) w) := by
  have e : blankR x = (((x : Int) == 32) || ((x : Int) == 9) || ((x : Int) == 13)) := by
    unfold blankR
    rw [Bool.eq_iff_iff]
    simp
    omega
  rw [e]
  by_cases h1 : x = 32
  · subst h1
    go_enter Tryz.func31, Tryz.ntmps31
    go_wp2_with fail
    go_ret
    exact ⟨rfl, rfl⟩
  · have b1 : ((x : Int) == 32) = false := by rw [beq_eq_false_iff_ne]; omega
    by_cases h2 : x = 9
    · subst h2
      go_enter Tryz.func31, Tryz.ntmps31
      go_wp2_with fail
      go_ret
      exact ⟨rfl, rfl⟩
    · have b2 : ((x : Int) == 9) = false := by rw [beq_eq_false_iff_ne]; omega
      rw [b1, b2]
      have H1 := Lib.hid b1
      have H2 := Lib.hid b2
      by_cases h3 : x = 13
      · subst h3
        go_enter Tryz.func31, Tryz.ntmps31
        go_wp2_with fail
        go_ret
        exact ⟨rfl, rfl⟩
      · have b3 : ((x : Int) == 13) = false := by rw [beq_eq_false_iff_ne]; omega
        rw [b3]
        go_enter Tryz.func31, Tryz.ntmps31
        go_wp2_with fail
        go_ret
        exact ⟨ret_bool (by first | rfl | rw [b1, b2, b3]), rfl⟩
theorem enter_blank : ∀ args w, (callFunc 31 args).run Tryz.prog w = .ok (.enter 31 args) w := fun _ _ => by kernel_rfl
theorem strings_FieldsFunc (w : World) (s : Txt) (hs : s.length ≤ 4294967296) (ha : ∀ c ∈ s, c.toNat < 128) :
    Calls Tryz.prog 30 #[.string ⟨s.toArray⟩, .func (.func 31) #[] #[]] w (Gives (fun v w' => StrsTy w' v (fieldsB s) ∧ ∃ a c, v = .slice a (fieldsB s).length c) w) := by
  refine (Go.Proofs.Tryz.strings_FieldsFunc_runes 31 #[] enter_blank blankR ⟨s.toArray⟩ w (by show s.toArray.size ≤ _; simpa using hs) (fun W x hx hb => (blank_c1 x hx W).mono fun e w' ⟨h1, h2⟩ => ⟨h1, 0, h2.symm⟩)).mono ?_
  rintro e w' ⟨A, rfl, hA, ho, hb⟩
  rw [goFields_flds s ha] at ho ⊢
  simp only [List.length_map] at ho ⊢
  refine ⟨_, rfl, ⟨⟨_, _, rfl, Nat.le_refl _, fun i x hx => ⟨A, 0, rfl, ?_⟩⟩, _, _, rfl⟩, hb⟩
  obtain ⟨h1, ⟨h2, _⟩ | ⟨g, cap, cur, h3, h4, h5, h6, h7, h8, h9⟩⟩ := ho
  · cases h2
  · injection h3 with h3 _ h10
    injection h3 with h3
    injection h3 with h3
    subst h3
    refine ⟨⟨cur, _, h5⟩, ?_⟩
    have hi := (List.getElem?_eq_some_iff.1 hx).1
    have hc := congrArg (fun l => l[i]?) h9
    simp only [List.getElem?_take, List.getElem?_map, hx, Option.map_some, Nat.mul_one] at hc
    rw [if_pos hi] at hc
    show w'.cell? ⟨A, 0 + i * 1, none⟩ = _
    simp only [World.cell?, h5]
    rw [Nat.zero_add, Nat.mul_one]
    simpa using hc
theorem strings_ToLower (w : World) (s : Txt) (hs : s.length ≤ 1000000) (ha : ∀ c ∈ s, c.toNat < 128) : Calls Tryz.prog 274 #[.string ⟨s.toArray⟩] w (Keeps (.string ⟨(Lib.toLowerA s).toArray⟩) w) :=
  (Go.Proofs.Tryz.strings_ToLower_ascii ⟨s.toArray⟩ w (by show s.toArray.size ≤ _; simp; omega) (fun j b hb => ha b (List.mem_of_getElem? hb))).mono fun _ _ h => h
end Go.Proofs.YtfnhdiibkogekaaGreatDoor
end
