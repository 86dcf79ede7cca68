/- Slices of numbers and of texts that a law is given; a fraction's text is not long. No program in sight. And: Package victuallerlaw1: F: a fraction of a text that is one; else 0. -/
import Derived.Test.YtehbhghbagaliaaGreatDoorJWalkQ
import Derived.Test.YtehbhghbagaliaaGreatDoorJPlainC
import Derived.Test.YtehbhghbagaliaaGreatDoorJWalkD
set_option linter.unusedVariables false
set_option linter.unusedSimpArgs false
namespace Vic
open Go Go.RowKit
def IntsArg (w:World) (v:Value) (xs:List Int):Prop:=∃ A c,v=.slice A xs.length c∧∀ (i:Nat) x,xs[i]?=some x→∃ g o,A=some ⟨g,o,none⟩∧w.cell? ⟨g,o+i,none⟩=some (.int .i64 x)
def StrsArg (w:World) (v:Value) (ys:List (List UInt8)):Prop:=∃ A c,v=.slice A ys.length c∧∀ (i:Nat) y,ys[i]?=some y→∃ g o,A=some ⟨g,o,none⟩∧w.cell? ⟨g,o+i,none⟩=some (.string ⟨y.toArray⟩)
theorem IntsArg.keep {w w':World}{v:Value}{xs:List Int}(h:IntsArg w v xs) (hb:Below w.heap.size w w'):IntsArg w' v xs:=by
 obtain ⟨A,c,h1,h2⟩:=h
 exact ⟨A,c,h1,fun i x hx=>by obtain ⟨g,o,h3,h4⟩:=h2 i x hx;exact ⟨g,o,h3,cell_keep h4 hb⟩⟩
theorem StrsArg.keep {w w':World}{v:Value}{ys:List (List UInt8)}(h:StrsArg w v ys) (hb:Below w.heap.size w w'):StrsArg w' v ys:=by
 obtain ⟨A,c,h1,h2⟩:=h
 exact ⟨A,c,h1,fun i x hx=>by obtain ⟨g,o,h3,h4⟩:=h2 i x hx;exact ⟨g,o,h3,cell_keep h4 hb⟩⟩
theorem text_len {ng:Bool}{n d:Nat}(hd:d≠0) (hn:(tdg n).length≤2000) (hl:(tdg d).length≤2000):(fracText (quo ng n d)).length≤20000:=by
 have h1:(Lib.decDigits (quo ng n d).num.natAbs).length≤8001:=dec_len_tdg (L:=2000) (Nat.le_trans (tdg_le (by rw[quo_natAbs hd];exact Nat.div_le_self _ _)) hn)
 have h2:(Lib.decDigits (quo ng n d).den).length≤8001:=dec_len_tdg (L:=2000) (Nat.le_trans (tdg_le (by rw[quo_den hd];exact Nat.div_le_self _ _)) hl)
 rw[fracText_sgnT]
 unfold sgnT
 rw[List.length_append,List.length_append]
 split<;>split<;>simp<;>omega
theorem fg_zero:FracGood [48]:=by
 have e:fracText ((0:Int):Rat) = [48]:=by rw[fracText_int];decide +kernel
 have h:=fracGood_text ((0:Int):Rat) (by decide +kernel) (by decide +kernel)
 rw[e]at h
 exact h.1
end Vic
set_option linter.unusedVariables false
set_option linter.unusedSimpArgs false
namespace Vic
open Go Go.RowKit
theorem sz_digits {n k:Nat}(h:n<10 ^ k):sz n≤k:=digs_length_le (B:=4294967296) (by omega) (Nat.lt_of_lt_of_le h (Nat.pow_le_pow_left (by omega) k))
theorem good_fits {l:List UInt8}(h:FracGood l):Fits 2000 (fracOf l):=by
 unfold fracOf
 refine fits_quo h.2.2.1 (Nat.le_trans (sz_digits (numOf_lt _ h.1.1.2.1)) h.1.2) (Nat.le_trans (sz_digits (numOf_lt _ h.2.1.1.2.1)) h.2.1.2)
end Vic
namespace Go.Proofs.YtehbhghbagaliaaGreatDoor
open Go.RowKit Vic
set_option maxRecDepth 100000 in
set_option maxHeartbeats 4000000 in
theorem law_F (w:World) (ht:Tab w) (s:List UInt8) (hs:s.length≤1000000):Calls Tryz.prog 7 #[.string ⟨s.toArray⟩] w (fun e w'=>∃ x q,e=.returned x∧FracPtr w' x q∧Fits 2000 q∧Below w.heap.size w w'):=by
 have CG:=Lib.hid (frac_Get w s hs ht)
 unfold GotFrac at CG
 have CO:Hid (∀ W,Calls Tryz.prog 29 #[.int .i64 0] W (Gives (fun x w'=>FracPtr w' x ((0:Int):Rat)) W)):=Lib.hid fun W=>frac_Of W 0 (by omega) (by omega)
 go_enter Tryz.func7,Tryz.ntmps7
 go_wp2_with fail
 refine CG.out.mono ?_
 rintro e w1 (⟨hno,rfl,hb1⟩|⟨hg,x,rfl,hx,hf,hb1⟩)
 ·go_wp2_with fail
  refine (CO.out _).mono ?_
  rintro e w2 ⟨x,rfl,hx,hb2⟩
  go_wp2_with fail
  go_ret
  exact ⟨_,_,rfl,hx,(fits_of (n:=0) (by omega) (by omega)).mono (by omega),below_seq hb1 hb2⟩
 ·obtain ⟨b,hxb⟩:∃ b,x=.pointer b:=by obtain ⟨b,_,_,h,_⟩:=hx;exact ⟨_,h⟩
  subst hxb
  have HX:=Lib.hid hx
  clear hx
  go_wp2_with fail
  go_ret
  exact ⟨_,_,rfl,HX.out,good_fits hg,hb1⟩
end Go.Proofs.YtehbhghbagaliaaGreatDoor
