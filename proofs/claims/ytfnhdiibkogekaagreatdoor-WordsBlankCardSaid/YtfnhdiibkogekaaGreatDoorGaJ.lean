/- What the machine for closed runs knows of this program: its functions, three that are none of Go's text, its table of powers of ten. -/
import Derived.Test.YtfnhdiibkogekaaGreatDoorGaI
import Derived.Test.YtfnhdiibkogekaaGreatDoorProg
import Derived.Laws.Externs
import Derived.ProofKit
import Derived.Lib.ItoaNum
import Derived.Lib.LaidTab
set_option linter.unusedVariables false
set_option linter.unusedSimpArgs false
section
namespace Go.Proofs.YtfnhdiibkogekaaGreatDoor
open Go Am
noncomputable section

def hasBody (f : FuncId) : Bool := match fnc Tryz.prog f with
  | some fn => fn.body.isSome
  | none => false
def extK (f : FuncId) : Nat := bif Nat.beq f 271 then 1 else bif Nat.beq f 240 then 2 else bif Nat.beq f 276 then 3 else 0
def K7 : Known := { g := 16, enter := hasBody, ext := extK, mz := 41, con := fun _ _ _ => none }
def pow10L : List AV := [1,10,100,1000,10000,100000,1000000,10000000,100000000,1000000000,10000000000,100000000000,1000000000000,10000000000000,100000000000000,1000000000000000,10000000000000000,100000000000000000,1000000000000000000,10000000000000000000].map (fun (x : Nat) => AV.i .u64 (.ofNat x))
def S7 : St := ⟨(full Blk 7).put (some (.cells 374 pow10L 20 true)) 3, 16⟩
/-- bodies, two hundred calls deep -/
def h7 : H := hN Tryz.prog K7 (adraw Tryz.prog K7) 200
def body7 (f : FuncId) : Code := match fnc Tryz.prog f with
  | some fn => match fn.body with
    | some c => c
    | none => .skip
  | none => .skip
def nt7 (f : FuncId) : Nat := match fnc Tryz.prog f with
  | some fn => fn.ntmps
  | none => 0
end
end Go.Proofs.YtfnhdiibkogekaaGreatDoor
end
section
namespace Go.Proofs.YtfnhdiibkogekaaGreatDoor
open Go Am
noncomputable section

theorem names7 : Tryz.prog.funcs.toList.all (fun fn => !(fn.name == "runtime.NumGoroutine")) = true := by kernel_rfl
theorem mixed7 : Tryz.prog.follows .mixedOrders = true := by kernel_rfl
theorem no_ext {f : FuncId} (h : extK f = 1) : f = 271 := by
  unfold extK at h
  cases h1 : Nat.beq f 271 with
  | true => exact Nat.eq_of_beq_eq_true h1
  | false =>
    rw [h1, cond_false] at h
    cases h2 : Nat.beq f 240 with
    | true => rw [h2, cond_true] at h; cases h
    | false =>
      rw [h2, cond_false] at h
      cases h3 : Nat.beq f 276 with
      | true => rw [h3, cond_true] at h; cases h
      | false => rw [h3, cond_false] at h; cases h
theorem no_ext2 {f : FuncId} (h : extK f = 2) : f = 240 := by
  unfold extK at h
  cases h1 : Nat.beq f 271 with
  | true => rw [h1, cond_true] at h; cases h
  | false =>
    rw [h1, cond_false] at h
    cases h2 : Nat.beq f 240 with
    | true => exact Nat.eq_of_beq_eq_true h2
    | false =>
      rw [h2, cond_false] at h
      cases h3 : Nat.beq f 276 with
      | true => rw [h3, cond_true] at h; cases h
      | false => rw [h3, cond_false] at h; cases h
theorem no_ext3 {f : FuncId} (h : extK f = 3) : f = 276 := by
  unfold extK at h
  cases h1 : Nat.beq f 271 with
  | true => rw [h1, cond_true] at h; cases h
  | false =>
    rw [h1, cond_false] at h
    cases h2 : Nat.beq f 240 with
    | true => rw [h2, cond_true] at h; cases h
    | false =>
      rw [h2, cond_false] at h
      cases h3 : Nat.beq f 276 with
      | true => exact Nat.eq_of_beq_eq_true h3
      | false => rw [h3, cond_false] at h; cases h
theorem ext_run (e : Array Value → Sem Value) (args : Array Value) (w : World) : ((e args).run Tryz.prog w).andThen (fun v w' => .ok (.value v) w') = ((do pure (.value (← e args)) : Sem Next)).run Tryz.prog w := by
  rw [Sem.run_bind]; rfl
theorem known7 : KnownOk Tryz.prog K7 where
  enter := fun f h args w => by
    have h : hasBody f = true := h
    unfold hasBody at h
    split at h
    · rename_i fn hfn
      have hn := names7
      rw [List.all_eq_true] at hn
      have hm : fn ∈ Tryz.prog.funcs.toList := by
        rw [fnc, nth_eq] at hfn
        exact List.mem_of_getElem? hfn
      have hne := hn fn hm
      rw [fnc_eq] at hfn
      have h1 : fn.name ≠ "runtime.NumGoroutine" := by simpa using hne
      obtain ⟨c, hc⟩ := Option.isSome_iff_exists.1 h
      simp [callFunc, hfn, h1, hc]
    · cases h
  ext1 := fun f _ h args w => by
    obtain rfl := no_ext h
    rw [run_callFunc_extern Tryz.func271 (by kernel_rfl) (by kernel_rfl) (by kernel_rfl) (e := Extern.BytealgIndexByte.indexByte) (by kernel_rfl)]
    exact ext_run _ _ _
  ext2 := fun f _ h args w => by
    obtain rfl := no_ext2 h
    rw [run_callFunc_extern Tryz.func240 (by kernel_rfl) (by kernel_rfl) (by kernel_rfl) (e := Extern.AbiNoEscape.same) (by kernel_rfl)]
    exact ext_run _ _ _
  ext3 := fun f _ h => by
    obtain rfl := no_ext3 h
    refine ⟨Tryz.f276.params, Tryz.f276.resultTypes, by kernel_rfl, fun args w => ?_⟩
    rw [run_callFunc_extern Tryz.func276 (by kernel_rfl) (by kernel_rfl) (by kernel_rfl) (e := Extern.BytealgMakeNoZero.makeNoZero Tryz.f276.params Tryz.f276.resultTypes) (by kernel_rfl)]
    exact ext_run _ _ _
  con := fun f _ args S v h => by cases h
  mixed := mixed7
/-- where the package variables lie -/
def m7 : Map := fun id => if id < 16 then some ⟨id, 0, if id = 3 then 20 else 0⟩ else none
theorem gl7 : Gl K7 m7 := fun g hg => by
  have hg : g < 16 := hg
  exact ⟨_, by unfold m7; rw [if_pos hg]⟩
theorem fre7 (n : Nat) : Fre m7 16 n := fun id h1 h2 => by unfold m7; rw [if_neg (by omega)]
theorem pow7 (m : Map) : cvs m pow10L = some (Lib.pow10Tab.map fun z => Value.int .u64 z) := by
  have : Lib.pow10Tab = [1,10,100,1000,10000,100000,1000000,10000000,100000000,1000000000,10000000000,100000000000,1000000000000,10000000000000,100000000000000,1000000000000000,10000000000000000,100000000000000000,1000000000000000000,10000000000000000000] := by decide
  rw [this]; rfl
/-- what start-up code has laid: the table of powers of ten -/
def T7 (w : World) : Prop := ∃ fr, w.heap[3]? = some (.cells (Lib.pow10Tab.map fun z => Value.int .u64 z).toArray 374 fr)
theorem T7.keep {w w' : World} (h : T7 w) (hb : Go.RowKit.Below w.heap.size w w') : T7 w' := by
  obtain ⟨fr, h⟩ := h
  exact ⟨fr, (hb.block _ (Array.getElem?_eq_some_iff.1 h).1).trans h⟩
theorem r7 {w : World} (h : T7 w) : R S7.lk m7 w := by
  obtain ⟨fr, hw⟩ := h
  have hlk : ∀ id b, S7.lk id = some b → id = 3 ∧ b = .cells 374 pow10L 20 true := fun id b hb => by
    rcases T.get_put (Blk.cells 374 pow10L 20 true) (full Blk 7) 3 id hb with h1 | ⟨_, h1⟩
    · exact h1
    · rw [full_get] at h1; cases h1
  refine ⟨fun id b hb => ?_, fun id id' b b' L L' h1 h2 _ _ _ => by rw [(hlk _ _ h1).1, (hlk _ _ h2).1]⟩
  obtain ⟨rfl, rfl⟩ := hlk id b hb
  refine ⟨⟨3, 0, 20⟩, (Lib.pow10Tab.map fun z => Value.int .u64 z).toArray, fr, _, rfl, hw, by rw [List.size_toArray, List.length_map, Lib.pow10Tab_length]; exact Nat.le_refl 20, by decide, pow7 _, fun i v hv => by simpa using hv, fun i h1 h2 => ?_, fun _ => ⟨rfl, by rw [List.size_toArray, List.length_map, Lib.pow10Tab_length]; rfl⟩⟩
  exact absurd h2 (by show ¬ i < 20; omega)
end
end Go.Proofs.YtfnhdiibkogekaaGreatDoor
end
section
namespace Go.Proofs.YtfnhdiibkogekaaGreatDoor
open Go Am
noncomputable section
def e5 : List (Nat × AV) := [(0, .b false),
  (2, .p 576 0),
  (4, .i .i64 (.ofNat 0)),
  (6, .sl 644 0 2 none 3 0),
  (8, .i .i64 (.ofNat 0)),
  (9, .s 1 84),
  (10, .p 1222 0),
  (12, .i .i64 (.ofNat 0))]
def b5 : List (Nat × Blk) := [(1222, .cells 76 [.i .i64 (.ofNat 1), .sl 828 0 1 none 2 0] 0 true),
  (828, .cells 137 [.s 0 0, .sl 943 0 2 none 2 0] 0 false),
  (943, .cells 142 [.s 3 3288881, .sl 765 0 1 (some 1) 3 0, .s 3 3288881, .sl 879 0 1 (some 1) 3 0] 0 false),
  (879, .cells 189 [.s 0 0, .s 4 1684366702, .s 2 12849] 0 true),
  (765, .cells 189 [.s 0 0, .s 4 1684366702, .s 1 52] 0 true),
  (644, .cells 56 [.s 1 120, .s 3 7364963, .s 3 6647407, .s 1 121, .s 4 1684366702, .s 3 7305076] 0 false),
  (576, .cells 46 [.s 1 84, .s 4 1953722211, .sl 202 0 2 none 5 0, .sl 350 0 2 none 5 0] 0 true),
  (350, .cells 49 [.s 1 120, .s 1 48, .s 1 56, .s 1 50, .b false, .s 1 121, .s 1 48, .s 0 0, .s 1 53, .b false] 0 false),
  (202, .cells 52 [.s 3 7364963, .i .i64 (.ofNat 1), .sl 296 0 1 none 2 0, .s 2 12337, .s 0 0, .s 4 1684366702, .i .i64 (.ofNat 3), .sl 434 0 2 none 2 0, .s 1 52, .s 0 0] 0 false),
  (434, .cells 54 [.i .i64 (.ofNat 0), .s 1 49, .i .i64 (.ofNat 1), .s 1 49] 0 false),
  (296, .cells 54 [.i .i64 (.ofNat 0), .s 1 49] 0 false),
  (3, .cells 374 pow10L 20 true)]
def n5 : Nat := 1223
def e7 : List (Nat × AV) := [(0, .b false),
  (2, .p 576 0),
  (4, .i .i64 (.ofNat 0)),
  (6, .sl 644 0 2 none 3 0),
  (8, .i .i64 (.ofNat 0)),
  (9, .s 1 84),
  (10, .p 1222 0),
  (12, .i .i64 (.ofNat 0)),
  (13, .sl 1240 0 2 none 3 0),
  (15, .i .i64 (.ofNat 0)),
  (16, .p 3083 0),
  (17, .sl 3082 0 2 none 4 0),
  (18, .i .i64 (.ofNat 0))]
def b7 : List (Nat × Blk) := [(3082, .cells 85 [.s 3 3288881, .sl 2874 0 1 none 5 0, .sl 2876 0 1 none 5 0, .sl 2884 0 1 none 1 0, .s 3 3288881, .sl 2980 0 1 none 5 0, .sl 2982 0 1 none 5 0, .sl 2990 0 1 none 1 0] 0 false),
  (2990, .cells 50 [.sl 2988 0 1 none 2 0] 0 false),
  (2988, .cells 54 [.i .i64 (.ofNat 0), .s 1 49] 0 false),
  (2982, .cells 52 [.s 4 1684366702, .i .i64 (.ofNat 3), .sl 2986 0 1 none 2 0, .s 2 12849, .s 0 0] 0 false),
  (2986, .cells 54 [.i .i64 (.ofNat 0), .s 1 49] 0 false),
  (2980, .cells 49 [.s 1 121, .s 1 48, .s 0 0, .s 1 53, .b false] 0 false),
  (2884, .cells 50 [.sl 2882 0 1 none 2 0] 0 false),
  (2882, .cells 54 [.i .i64 (.ofNat 0), .s 1 49] 0 false),
  (2876, .cells 52 [.s 4 1684366702, .i .i64 (.ofNat 3), .sl 2880 0 1 none 2 0, .s 1 52, .s 0 0] 0 false),
  (2880, .cells 54 [.i .i64 (.ofNat 0), .s 1 49] 0 false),
  (2874, .cells 49 [.s 1 121, .s 1 48, .s 0 0, .s 1 53, .b false] 0 false),
  (3083, .cells 62 [.sl 1733 0 1 none 5 0, .sl 1745 0 1 none 5 0, .sl 1735 0 1 none 5 0, .sl 1761 0 1 none 5 0, .sl 1763 0 1 none 1 0] 0 true),
  (1763, .cells 50 [.sl 1752 0 1 none 2 0] 0 false),
  (1752, .cells 54 [.i .i64 (.ofNat 0), .s 1 49] 0 false),
  (1761, .cells 52 [.s 4 1684366702, .i .i64 (.ofNat 3), .sl 1759 0 1 none 2 0, .s 1 52, .s 0 0] 0 false),
  (1759, .cells 54 [.i .i64 (.ofNat 0), .s 1 49] 0 false),
  (1735, .cells 49 [.s 1 121, .s 1 48, .s 0 0, .s 1 53, .b false] 0 false),
  (1745, .cells 52 [.s 3 7364963, .i .i64 (.ofNat 1), .sl 1743 0 1 none 2 0, .s 2 12337, .s 0 0] 0 false),
  (1743, .cells 54 [.i .i64 (.ofNat 0), .s 1 49] 0 false),
  (1733, .cells 49 [.s 1 120, .s 1 48, .s 1 56, .s 1 50, .b false] 0 false),
  (1240, .cells 33 [.i .i64 (.ofNat 1), .b false, .sl 1228 0 2 (some 2) 1 0, .i .i64 (.ofNat 2), .b true, .sl 1237 0 1 (some 1) 1 0] 0 false),
  (1237, .cells 9 [.s 4 1145128264] 0 true),
  (1228, .cells 9 [.s 1 97, .s 1 98] 0 true),
  (1222, .cells 76 [.i .i64 (.ofNat 1), .sl 828 0 1 none 2 0] 0 true),
  (828, .cells 137 [.s 0 0, .sl 943 0 2 none 2 0] 0 false),
  (943, .cells 142 [.s 3 3288881, .sl 765 0 1 (some 1) 3 0, .s 3 3288881, .sl 879 0 1 (some 1) 3 0] 0 false),
  (879, .cells 189 [.s 0 0, .s 4 1684366702, .s 2 12849] 0 true),
  (765, .cells 189 [.s 0 0, .s 4 1684366702, .s 1 52] 0 true),
  (644, .cells 56 [.s 1 120, .s 3 7364963, .s 3 6647407, .s 1 121, .s 4 1684366702, .s 3 7305076] 0 false),
  (576, .cells 46 [.s 1 84, .s 4 1953722211, .sl 202 0 2 none 5 0, .sl 350 0 2 none 5 0] 0 true),
  (350, .cells 49 [.s 1 120, .s 1 48, .s 1 56, .s 1 50, .b false, .s 1 121, .s 1 48, .s 0 0, .s 1 53, .b false] 0 false),
  (202, .cells 52 [.s 3 7364963, .i .i64 (.ofNat 1), .sl 296 0 1 none 2 0, .s 2 12337, .s 0 0, .s 4 1684366702, .i .i64 (.ofNat 3), .sl 434 0 2 none 2 0, .s 1 52, .s 0 0] 0 false),
  (434, .cells 54 [.i .i64 (.ofNat 0), .s 1 49, .i .i64 (.ofNat 1), .s 1 49] 0 false),
  (296, .cells 54 [.i .i64 (.ofNat 0), .s 1 49] 0 false),
  (3, .cells 374 pow10L 20 true)]
def n7 : Nat := 3084
def e12 : List (Nat × AV) := [(0, .b false),
  (2, .p 576 0),
  (4, .i .i64 (.ofNat 0)),
  (6, .sl 644 0 2 none 3 0),
  (8, .i .i64 (.ofNat 0)),
  (9, .s 1 84),
  (10, .p 1222 0),
  (12, .i .i64 (.ofNat 0)),
  (13, .sl 1240 0 2 none 3 0),
  (15, .i .i64 (.ofNat 0)),
  (16, .p 3083 0),
  (17, .sl 3082 0 2 none 4 0),
  (18, .i .i64 (.ofNat 0)),
  (20, .b true),
  (21, .p 4171 0),
  (23, .i .i64 (.ofNat 0)),
  (24, .i .i64 (.ofNat 2)),
  (25, .b true),
  (26, .i .i64 (.ofNat 1)),
  (29, .i .i64 (.ofNat 0))]
def b12 : List (Nat × Blk) := [(4171, .cells 46 [.s 1 84, .s 4 1953722211, .sl 3794 0 2 none 5 0, .sl 3942 0 2 none 5 0] 0 true),
  (3942, .cells 49 [.s 1 120, .s 1 48, .s 1 56, .s 1 50, .b false, .s 1 121, .s 1 48, .s 0 0, .s 1 53, .b false] 0 false),
  (3794, .cells 52 [.s 3 7364963, .i .i64 (.ofNat 1), .sl 3888 0 1 none 2 0, .s 2 12337, .s 0 0, .s 4 1684366702, .i .i64 (.ofNat 3), .sl 4026 0 2 none 2 0, .s 1 52, .s 0 0] 0 false),
  (4026, .cells 54 [.i .i64 (.ofNat 0), .s 1 49, .i .i64 (.ofNat 1), .s 1 49] 0 false),
  (3888, .cells 54 [.i .i64 (.ofNat 0), .s 1 49] 0 false),
  (3082, .cells 85 [.s 3 3288881, .sl 2874 0 1 none 5 0, .sl 2876 0 1 none 5 0, .sl 2884 0 1 none 1 0, .s 3 3288881, .sl 2980 0 1 none 5 0, .sl 2982 0 1 none 5 0, .sl 2990 0 1 none 1 0] 0 false),
  (2990, .cells 50 [.sl 2988 0 1 none 2 0] 0 false),
  (2988, .cells 54 [.i .i64 (.ofNat 0), .s 1 49] 0 false),
  (2982, .cells 52 [.s 4 1684366702, .i .i64 (.ofNat 3), .sl 2986 0 1 none 2 0, .s 2 12849, .s 0 0] 0 false),
  (2986, .cells 54 [.i .i64 (.ofNat 0), .s 1 49] 0 false),
  (2980, .cells 49 [.s 1 121, .s 1 48, .s 0 0, .s 1 53, .b false] 0 false),
  (2884, .cells 50 [.sl 2882 0 1 none 2 0] 0 false),
  (2882, .cells 54 [.i .i64 (.ofNat 0), .s 1 49] 0 false),
  (2876, .cells 52 [.s 4 1684366702, .i .i64 (.ofNat 3), .sl 2880 0 1 none 2 0, .s 1 52, .s 0 0] 0 false),
  (2880, .cells 54 [.i .i64 (.ofNat 0), .s 1 49] 0 false),
  (2874, .cells 49 [.s 1 121, .s 1 48, .s 0 0, .s 1 53, .b false] 0 false),
  (3083, .cells 62 [.sl 1733 0 1 none 5 0, .sl 1745 0 1 none 5 0, .sl 1735 0 1 none 5 0, .sl 1761 0 1 none 5 0, .sl 1763 0 1 none 1 0] 0 true),
  (1763, .cells 50 [.sl 1752 0 1 none 2 0] 0 false),
  (1752, .cells 54 [.i .i64 (.ofNat 0), .s 1 49] 0 false),
  (1761, .cells 52 [.s 4 1684366702, .i .i64 (.ofNat 3), .sl 1759 0 1 none 2 0, .s 1 52, .s 0 0] 0 false),
  (1759, .cells 54 [.i .i64 (.ofNat 0), .s 1 49] 0 false),
  (1735, .cells 49 [.s 1 121, .s 1 48, .s 0 0, .s 1 53, .b false] 0 false),
  (1745, .cells 52 [.s 3 7364963, .i .i64 (.ofNat 1), .sl 1743 0 1 none 2 0, .s 2 12337, .s 0 0] 0 false),
  (1743, .cells 54 [.i .i64 (.ofNat 0), .s 1 49] 0 false),
  (1733, .cells 49 [.s 1 120, .s 1 48, .s 1 56, .s 1 50, .b false] 0 false),
  (1240, .cells 33 [.i .i64 (.ofNat 1), .b false, .sl 1228 0 2 (some 2) 1 0, .i .i64 (.ofNat 2), .b true, .sl 1237 0 1 (some 1) 1 0] 0 false),
  (1237, .cells 9 [.s 4 1145128264] 0 true),
  (1228, .cells 9 [.s 1 97, .s 1 98] 0 true),
  (1222, .cells 76 [.i .i64 (.ofNat 1), .sl 828 0 1 none 2 0] 0 true),
  (828, .cells 137 [.s 0 0, .sl 943 0 2 none 2 0] 0 false),
  (943, .cells 142 [.s 3 3288881, .sl 765 0 1 (some 1) 3 0, .s 3 3288881, .sl 879 0 1 (some 1) 3 0] 0 false),
  (879, .cells 189 [.s 0 0, .s 4 1684366702, .s 2 12849] 0 true),
  (765, .cells 189 [.s 0 0, .s 4 1684366702, .s 1 52] 0 true),
  (644, .cells 56 [.s 1 120, .s 3 7364963, .s 3 6647407, .s 1 121, .s 4 1684366702, .s 3 7305076] 0 false),
  (576, .cells 46 [.s 1 84, .s 4 1953722211, .sl 202 0 2 none 5 0, .sl 350 0 2 none 5 0] 0 true),
  (350, .cells 49 [.s 1 120, .s 1 48, .s 1 56, .s 1 50, .b false, .s 1 121, .s 1 48, .s 0 0, .s 1 53, .b false] 0 false),
  (202, .cells 52 [.s 3 7364963, .i .i64 (.ofNat 1), .sl 296 0 1 none 2 0, .s 2 12337, .s 0 0, .s 4 1684366702, .i .i64 (.ofNat 3), .sl 434 0 2 none 2 0, .s 1 52, .s 0 0] 0 false),
  (434, .cells 54 [.i .i64 (.ofNat 0), .s 1 49, .i .i64 (.ofNat 1), .s 1 49] 0 false),
  (296, .cells 54 [.i .i64 (.ofNat 0), .s 1 49] 0 false),
  (3, .cells 374 pow10L 20 true)]
def n12 : Nat := 4584
end
end Go.Proofs.YtfnhdiibkogekaaGreatDoor
end
