/- A text cut at nine bytes; what the machine knows with it; what is kept at the cuts of TreeOwn's run. -/
import Derived.Test.YtbeageacgalhiaaGreatDoorAmKq
import Derived.Test.YtbeageacgalhiaaGreatDoorAmKx
import Derived.ProofKit
set_option linter.unusedVariables false
set_option linter.unusedSimpArgs false
namespace Go.Proofs.YtbeageacgalhiaaGreatDoor
section toA
open Go Am Go.RowKit
def cut9 (s : ByteArray) : ByteArray := if 9 < s.size then s.extract 0 9 else s
set_option maxRecDepth 100000 in
set_option maxHeartbeats 4000000 in
theorem text9 (w : World) (s : ByteArray) : Calls Tryz.prog 12 #[.string s, .int .i64 9] w fun e w' => e = .returned (.string (cut9 s)) ∧ Below w.heap.size w w' := by
  go_enter Tryz.func12, Tryz.ntmps12
  go_wp2_with fail
  · go_ret
    exact ⟨by unfold cut9; split <;> first | rfl | omega, Below.refl _ _⟩
  · go_ret
    exact ⟨by unfold cut9; split <;> first | rfl | omega, Below.refl _ _⟩
end toA
open Go Am Go.RowKit
noncomputable section toB
def con9 (k : Nat) (xs : List AV) (S : St) : Option AV :=
  bif Nat.beq k 5 then (match xs with
    | [.v u, .i .i64 (.ofNat n)] => (match u with
      | .string s => bif Nat.beq n 9 then some (.v (.string (cut9 s))) else none
      | _ => none)
    | _ => none) else con8 k xs S
def ext9 (f : FuncId) : Nat := bif Nat.beq f 12 then 5 else ext8 f
def K9 : Known := { g := 16, enter := fun f => K8.enter f && !(Nat.beq f 12), ext := ext9, mz := 128, con := con9 }
def h9 : H := hN Tryz.prog K9 (adraw Tryz.prog K9) 200
theorem ext9_of {f : FuncId} {k : Nat} (hk : k ≠ 5) (h : ext9 f = k) : ext8 f = k := by
  unfold ext9 at h
  cases hb : Nat.beq f 12 with
  | true => rw [hb, cond_true] at h; exact absurd h.symm hk
  | false => rw [hb, cond_false] at h; exact h
theorem has_text : hasBody 12 = true := by kernel_rfl
theorem off8 {f : FuncId} (h : ext8 f ≠ 0) : K8.enter f = false := by
  show (hasBody f && !(Nat.beq f 5)) = false
  unfold ext8 at h
  cases hb : Nat.beq f 5 with
  | true => simp
  | false =>
    rw [hb, cond_false] at h
    rw [has_of h]; rfl
theorem known9 : KnownOk Tryz.prog K9 where
  enter := fun f h => by
    have h : (K8.enter f && !(Nat.beq f 12)) = true := h
    rw [Bool.and_eq_true] at h
    exact known8.enter f h.1
  ext1 := fun f _ h => by
    have h1 := ext9_of (by decide) h
    exact known8.ext1 f (off8 (by rw [h1]; decide)) h1
  ext2 := fun f _ h => by
    have h1 := ext9_of (by decide) h
    exact known8.ext2 f (off8 (by rw [h1]; decide)) h1
  ext3 := fun f _ h => by
    have h1 := ext9_of (by decide) h
    exact known8.ext3 f (off8 (by rw [h1]; decide)) h1
  con := fun f hen args S v h => by
    have hc : con9 (ext9 f) args S = some v := h
    clear h
    unfold con9 at hc
    cases hf : Nat.beq f 12 with
    | true =>
      rw [Nat.beq_eq] at hf
      subst hf
      have he : Nat.beq (ext9 12) 5 = true := by kernel_rfl
      rw [he, cond_true] at hc
      split at hc
      · rename_i u n
        split at hc
        · rename_i s
          cases hn : Nat.beq n 9 with
          | false => rw [hn, cond_false] at hc; cases hc
          | true =>
            rw [hn, cond_true] at hc
            rw [Nat.beq_eq] at hn
            subst hn
            obtain rfl := Option.some.inj hc
            refine ⟨known7.enter _ has_text, fun m w vs hR hG ha => ⟨.string (cut9 s), rfl, ?_⟩⟩
            have : vs = [.string s, .int .i64 9] := by simpa [cvs, cvo, onecV] using ha.symm
            subst this
            exact text9 w s
        · cases hc
      · cases hc
    | false =>
      have e : ext9 f = ext8 f := by unfold ext9; rw [hf]; rfl
      have hne : Nat.beq (ext9 f) 5 = false := by
        rw [e, bqn]
        unfold ext8 extK
        cases Nat.beq f 5 <;> cases Nat.beq f 260 <;> cases Nat.beq f 226 <;> cases Nat.beq f 262 <;> decide
      rw [hne, cond_false, e] at hc
      have hen : (K8.enter f && !(Nat.beq f 12)) = false := hen
      rw [hf] at hen
      have h8' : K8.enter f = false := by simpa using hen
      exact known8.con f h8' args S v hc
  mixed := mixed7
theorem gl9 : Gl K9 m7 := fun g hg => gl7 g hg
theorem hold9 : ∀ id b, S7.lk id = some b → id < K9.g := hold7
end toB
set_option maxRecDepth 100000
open Go Am Go.RowKit
noncomputable section toC
def eo7 : List (Nat × AV) := [(2, .b false),
  (5, .p 576 0),
  (9, .sl 644 0 2 none 3 0),
  (13, .p 1222 0)]
def bo7 : List (Nat × Blk) := [(1222, .cells 55 [.i .i64 (.ofNat 1), .sl 828 0 1 none 2 0] 0 true),
  (828, .cells 113 [.s 0 0, .sl 943 0 2 none 2 0] 0 false),
  (943, .cells 118 [.s 3 3288881, .sl 765 0 1 (some 1) 3 0, .s 3 3288881, .sl 879 0 1 (some 1) 3 0] 0 false),
  (879, .cells 164 [.s 0 0, .s 4 1684366702, .s 2 12849] 0 true),
  (765, .cells 164 [.s 0 0, .s 4 1684366702, .s 1 52] 0 true),
  (644, .cells 44 [.s 1 120, .s 3 7364963, .s 3 6647407, .s 1 121, .s 4 1684366702, .s 3 7305076] 0 false),
  (576, .cells 29 [.s 1 84, .s 4 1953722211, .sl 202 0 2 none 5 0, .sl 350 0 2 none 5 0] 0 true),
  (350, .cells 42 [.s 1 120, .s 1 48, .s 1 56, .s 1 50, .b false, .s 1 121, .s 1 48, .s 0 0, .s 1 53, .b false] 0 false),
  (202, .cells 38 [.s 3 7364963, .i .i64 (.ofNat 1), .sl 296 0 1 none 2 0, .s 2 12337, .s 0 0, .s 4 1684366702, .i .i64 (.ofNat 3), .sl 434 0 2 none 2 0, .s 1 52, .s 0 0] 0 false),
  (434, .cells 40 [.i .i64 (.ofNat 0), .s 1 49, .i .i64 (.ofNat 1), .s 1 49] 0 false),
  (296, .cells 40 [.i .i64 (.ofNat 0), .s 1 49] 0 false),
  (3, .cells 356 pow10L 20 true)]
def no7 : Nat := 1223
def eo8 : List (Nat × AV) := [(2, .b false),
  (5, .p 576 0),
  (9, .sl 644 0 2 none 3 0),
  (13, .p 1222 0),
  (16, .p 3065 0),
  (17, .sl 3064 0 2 none 4 0),
  (18, .i .i64 (.ofNat 0))]
def bo8 : List (Nat × Blk) := [(3064, .cells 62 [.s 3 3288881, .sl 2856 0 1 none 5 0, .sl 2858 0 1 none 5 0, .sl 2866 0 1 none 1 0, .s 3 3288881, .sl 2962 0 1 none 5 0, .sl 2964 0 1 none 5 0, .sl 2972 0 1 none 1 0] 0 false),
  (2972, .cells 36 [.sl 2970 0 1 none 2 0] 0 false),
  (2970, .cells 40 [.i .i64 (.ofNat 0), .s 1 49] 0 false),
  (2964, .cells 38 [.s 4 1684366702, .i .i64 (.ofNat 3), .sl 2968 0 1 none 2 0, .s 2 12849, .s 0 0] 0 false),
  (2968, .cells 40 [.i .i64 (.ofNat 0), .s 1 49] 0 false),
  (2962, .cells 42 [.s 1 121, .s 1 48, .s 0 0, .s 1 53, .b false] 0 false),
  (2866, .cells 36 [.sl 2864 0 1 none 2 0] 0 false),
  (2864, .cells 40 [.i .i64 (.ofNat 0), .s 1 49] 0 false),
  (2858, .cells 38 [.s 4 1684366702, .i .i64 (.ofNat 3), .sl 2862 0 1 none 2 0, .s 1 52, .s 0 0] 0 false),
  (2862, .cells 40 [.i .i64 (.ofNat 0), .s 1 49] 0 false),
  (2856, .cells 42 [.s 1 121, .s 1 48, .s 0 0, .s 1 53, .b false] 0 false),
  (3065, .cells 49 [.sl 1715 0 1 none 5 0, .sl 1727 0 1 none 5 0, .sl 1717 0 1 none 5 0, .sl 1743 0 1 none 5 0, .sl 1745 0 1 none 1 0] 0 true),
  (1745, .cells 36 [.sl 1734 0 1 none 2 0] 0 false),
  (1734, .cells 40 [.i .i64 (.ofNat 0), .s 1 49] 0 false),
  (1743, .cells 38 [.s 4 1684366702, .i .i64 (.ofNat 3), .sl 1741 0 1 none 2 0, .s 1 52, .s 0 0] 0 false),
  (1741, .cells 40 [.i .i64 (.ofNat 0), .s 1 49] 0 false),
  (1717, .cells 42 [.s 1 121, .s 1 48, .s 0 0, .s 1 53, .b false] 0 false),
  (1727, .cells 38 [.s 3 7364963, .i .i64 (.ofNat 1), .sl 1725 0 1 none 2 0, .s 2 12337, .s 0 0] 0 false),
  (1725, .cells 40 [.i .i64 (.ofNat 0), .s 1 49] 0 false),
  (1715, .cells 42 [.s 1 120, .s 1 48, .s 1 56, .s 1 50, .b false] 0 false),
  (1222, .cells 55 [.i .i64 (.ofNat 1), .sl 828 0 1 none 2 0] 0 true),
  (828, .cells 113 [.s 0 0, .sl 943 0 2 none 2 0] 0 false),
  (943, .cells 118 [.s 3 3288881, .sl 765 0 1 (some 1) 3 0, .s 3 3288881, .sl 879 0 1 (some 1) 3 0] 0 false),
  (879, .cells 164 [.s 0 0, .s 4 1684366702, .s 2 12849] 0 true),
  (765, .cells 164 [.s 0 0, .s 4 1684366702, .s 1 52] 0 true),
  (644, .cells 44 [.s 1 120, .s 3 7364963, .s 3 6647407, .s 1 121, .s 4 1684366702, .s 3 7305076] 0 false),
  (576, .cells 29 [.s 1 84, .s 4 1953722211, .sl 202 0 2 none 5 0, .sl 350 0 2 none 5 0] 0 true),
  (350, .cells 42 [.s 1 120, .s 1 48, .s 1 56, .s 1 50, .b false, .s 1 121, .s 1 48, .s 0 0, .s 1 53, .b false] 0 false),
  (202, .cells 38 [.s 3 7364963, .i .i64 (.ofNat 1), .sl 296 0 1 none 2 0, .s 2 12337, .s 0 0, .s 4 1684366702, .i .i64 (.ofNat 3), .sl 434 0 2 none 2 0, .s 1 52, .s 0 0] 0 false),
  (434, .cells 40 [.i .i64 (.ofNat 0), .s 1 49, .i .i64 (.ofNat 1), .s 1 49] 0 false),
  (296, .cells 40 [.i .i64 (.ofNat 0), .s 1 49] 0 false),
  (3, .cells 356 pow10L 20 true)]
def no8 : Nat := 3066
def eo9 : List (Nat × AV) := [(2, .b false),
  (16, .p 3065 0),
  (17, .sl 3064 0 2 none 4 0),
  (18, .i .i64 (.ofNat 0)),
  (19, .p 4908 0),
  (20, .sl 4907 0 2 none 4 0),
  (21, .i .i64 (.ofNat 0))]
def bo9 : List (Nat × Blk) := [(4907, .cells 62 [.s 3 3288881, .sl 4699 0 1 none 5 0, .sl 4701 0 1 none 5 0, .sl 4709 0 1 none 1 0, .s 3 3288881, .sl 4805 0 1 none 5 0, .sl 4807 0 1 none 5 0, .sl 4815 0 1 none 1 0] 0 false),
  (4815, .cells 36 [.sl 4813 0 1 none 2 0] 0 false),
  (4813, .cells 40 [.i .i64 (.ofNat 0), .s 1 49] 0 false),
  (4807, .cells 38 [.s 4 1684366702, .i .i64 (.ofNat 3), .sl 4811 0 1 none 2 0, .s 2 12849, .s 0 0] 0 false),
  (4811, .cells 40 [.i .i64 (.ofNat 0), .s 1 49] 0 false),
  (4805, .cells 42 [.s 1 121, .s 1 48, .s 0 0, .s 1 53, .b false] 0 false),
  (4709, .cells 36 [.sl 4707 0 1 none 2 0] 0 false),
  (4707, .cells 40 [.i .i64 (.ofNat 0), .s 1 49] 0 false),
  (4701, .cells 38 [.s 4 1684366702, .i .i64 (.ofNat 3), .sl 4705 0 1 none 2 0, .s 1 52, .s 0 0] 0 false),
  (4705, .cells 40 [.i .i64 (.ofNat 0), .s 1 49] 0 false),
  (4699, .cells 42 [.s 1 121, .s 1 48, .s 0 0, .s 1 53, .b false] 0 false),
  (4908, .cells 49 [.sl 3558 0 1 none 5 0, .sl 3570 0 1 none 5 0, .sl 3560 0 1 none 5 0, .sl 3586 0 1 none 5 0, .sl 3588 0 1 none 1 0] 0 true),
  (3588, .cells 36 [.sl 3577 0 1 none 2 0] 0 false),
  (3577, .cells 40 [.i .i64 (.ofNat 0), .s 1 49] 0 false),
  (3586, .cells 38 [.s 4 1684366702, .i .i64 (.ofNat 3), .sl 3584 0 1 none 2 0, .s 1 52, .s 0 0] 0 false),
  (3584, .cells 40 [.i .i64 (.ofNat 0), .s 1 49] 0 false),
  (3560, .cells 42 [.s 1 121, .s 1 48, .s 0 0, .s 1 53, .b false] 0 false),
  (3570, .cells 38 [.s 3 7364963, .i .i64 (.ofNat 1), .sl 3568 0 1 none 2 0, .s 2 12337, .s 0 0] 0 false),
  (3568, .cells 40 [.i .i64 (.ofNat 0), .s 1 49] 0 false),
  (3558, .cells 42 [.s 1 120, .s 1 48, .s 1 56, .s 1 50, .b false] 0 false),
  (3064, .cells 62 [.s 3 3288881, .sl 2856 0 1 none 5 0, .sl 2858 0 1 none 5 0, .sl 2866 0 1 none 1 0, .s 3 3288881, .sl 2962 0 1 none 5 0, .sl 2964 0 1 none 5 0, .sl 2972 0 1 none 1 0] 0 false),
  (2972, .cells 36 [.sl 2970 0 1 none 2 0] 0 false),
  (2970, .cells 40 [.i .i64 (.ofNat 0), .s 1 49] 0 false),
  (2964, .cells 38 [.s 4 1684366702, .i .i64 (.ofNat 3), .sl 2968 0 1 none 2 0, .s 2 12849, .s 0 0] 0 false),
  (2968, .cells 40 [.i .i64 (.ofNat 0), .s 1 49] 0 false),
  (2962, .cells 42 [.s 1 121, .s 1 48, .s 0 0, .s 1 53, .b false] 0 false),
  (2866, .cells 36 [.sl 2864 0 1 none 2 0] 0 false),
  (2864, .cells 40 [.i .i64 (.ofNat 0), .s 1 49] 0 false),
  (2858, .cells 38 [.s 4 1684366702, .i .i64 (.ofNat 3), .sl 2862 0 1 none 2 0, .s 1 52, .s 0 0] 0 false),
  (2862, .cells 40 [.i .i64 (.ofNat 0), .s 1 49] 0 false),
  (2856, .cells 42 [.s 1 121, .s 1 48, .s 0 0, .s 1 53, .b false] 0 false),
  (3065, .cells 49 [.sl 1715 0 1 none 5 0, .sl 1727 0 1 none 5 0, .sl 1717 0 1 none 5 0, .sl 1743 0 1 none 5 0, .sl 1745 0 1 none 1 0] 0 true),
  (1745, .cells 36 [.sl 1734 0 1 none 2 0] 0 false),
  (1734, .cells 40 [.i .i64 (.ofNat 0), .s 1 49] 0 false),
  (1743, .cells 38 [.s 4 1684366702, .i .i64 (.ofNat 3), .sl 1741 0 1 none 2 0, .s 1 52, .s 0 0] 0 false),
  (1741, .cells 40 [.i .i64 (.ofNat 0), .s 1 49] 0 false),
  (1717, .cells 42 [.s 1 121, .s 1 48, .s 0 0, .s 1 53, .b false] 0 false),
  (1727, .cells 38 [.s 3 7364963, .i .i64 (.ofNat 1), .sl 1725 0 1 none 2 0, .s 2 12337, .s 0 0] 0 false),
  (1725, .cells 40 [.i .i64 (.ofNat 0), .s 1 49] 0 false),
  (1715, .cells 42 [.s 1 120, .s 1 48, .s 1 56, .s 1 50, .b false] 0 false),
  (3, .cells 356 pow10L 20 true)]
def no9 : Nat := 4909
def vto (s : ByteArray) : AV := .v (.string s)
end toC
end Go.Proofs.YtbeageacgalhiaaGreatDoor
