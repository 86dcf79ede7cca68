/- Words in decimal digits (strconv.FormatUint at base 10), over the shelf's contracts. -/
import Derived.Test.YtehbhghbagaliaaGreatDoorShelf
import Derived.Lib.AppendIntMem
import Derived.Test.YtehbhghbagaliaaGreatDoorJMemA
set_option linter.unusedVariables false
set_option linter.unusedSimpArgs false
namespace Go.Proofs.YtehbhghbagaliaaGreatDoor
open Go.Shelf Go.RowKit Go.Sort Go.Lib Vic
structure Tab (w:World):Prop where
 pow:Lib.TabIs Tryz.prog w "internal/strconv.uint64pow10" .u64 Lib.pow10Tab
 maxLen:∃ m:Int,w.cell? ⟨2,0,none⟩=some (.int .i64 m)
theorem Tab.keep {w w':World}(h:Tab w) (hb:Below w.heap.size w w'):Tab w':=
 ⟨Lib.tabBelow_of_tabIs h.pow w' hb,by obtain ⟨m,hm⟩:=h.maxLen;exact ⟨m,cell_keep hm hb⟩⟩
set_option maxHeartbeats 4000000 in
set_option maxRecDepth 100000 in
theorem internal_FormatUint (w:World) (u:Nat) (hu64:u<18446744073709551616) (htab:Tab w) :
 Calls Tryz.prog 116 #[.int .u64 u,.int .i64 10] w (Keeps (.string ⟨(Lib.decDigits u).toArray⟩) w):=by
 by_cases hs:u<100
 ·have CS:=Lib.hid (Go.Proofs.Tryz.internal_strconv_small u hs w)
  have hs':((u:Nat):Int)<100:=by omega
  go_enter Tryz.func116,Tryz.ntmps116
  go_wp2_with fail
  refine CS.out.mono ?_
  rintro e w' ⟨rfl,rfl⟩
  go_wp2_with fail
  go_ret
  exact ⟨rfl,Below.refl _ _⟩
 ·have hu1:1≤u:=by omega
  have hnd20:Lib.nDigits u≤20:=by have:=Lib.numDigits_eq u hu1 hu64;split at this<;>omega
  have hnd1:=Lib.nDigits_pos u
  have hlen:Tryz.prog.arrayLen 193=24:=by kernel_rfl
  have hsl:∀ W,(Instr.sliceAt 193 (.pointer (some ⟨w.heap.size,0,none⟩)) none (some (.int .i64 (Lib.nDigits u:Int))) none).run Tryz.prog W=.ok (.slice (some ⟨w.heap.size,0,none⟩) (Lib.nDigits u) 24) W:=fun W=>by
   rw[run_sliceAt_array_h W 193 ⟨w.heap.size,0,none⟩ (by kernel_rfl) .i64 (Lib.nDigits u:Int) (by omega) (by rw[hlen];omega)]
   go_simp
  have hH0:=Lib.holds_zero0 w 193 (Lib.nDigits u) (by omega)
  have hfmt:=Go.Proofs.Tryz.internal_strconv_formatBase10 w.heap.size 0 24 u (Array.replicate (Lib.nDigits u) 0) (w.alloc (.cells Lib.zeros24 193)) hH0 (by rw[Array.size_replicate];exact Lib.lt_pow_nDigits u) hu64 (by rw[Array.size_replicate];omega)
  rw[Array.size_replicate]at hfmt
  have HH0:=Lib.hid hH0
  have HF:=Lib.hid hfmt
  have CN:=Lib.hid (Go.Proofs.Tryz.internal_strconv_numDigits u hu1 hu64 (w.alloc (.cells Lib.zeros24 193)) (Lib.tabIs_alloc htab.pow _))
  have iu:(100:Int)≤(u:Int):=by omega
  clear hH0 hlen hfmt
  go_enter Tryz.func116,Tryz.ntmps116
  go_wp2_with fail
  refine CN.out.mono ?_
  rintro e w' ⟨rfl,rfl⟩
  go_wp2_with fail
  refine HF.out.mono ?_
  rintro e w' ⟨rfl,k,v',dk,rfl,hF⟩
  have hcv:(convert 142 9 (.slice (some ⟨w.heap.size,0,none⟩) (Lib.nDigits u) 24)).run Tryz.prog ((putRow (fun (b:UInt8)=>Value.int .u8 (b.toNat:Int)) (w.alloc (.cells Lib.zeros24 193)) w.heap.size 0 dk).drewN k)=.ok (.string ⟨(Lib.decDigits u).toArray⟩) ((putRow (fun (b:UInt8)=>Value.int .u8 (b.toNat:Int)) (w.alloc (.cells Lib.zeros24 193)) w.heap.size 0 dk).drewN k):=by
   have h:=run_convert_bytes_back (P:=Tryz.prog) ((putRow (fun (b:UInt8)=>Value.int .u8 (b.toNat:Int)) (w.alloc (.cells Lib.zeros24 193)) w.heap.size 0 dk).drewN k) 142 9 5 ⟨w.heap.size,0,none⟩ 24 (Lib.decDigits u) (by kernel_rfl) (by kernel_rfl) (by kernel_rfl) (fun j hj=>by
    rw[Lib.row_is_numeral hF j hj,Lib.add_plain,World.cell?_drewN]
    exact cell?_putRow (fun (b:UInt8)=>Value.int .u8 (b.toNat:Int)) _ w.heap.size 0 _ dk HH0.out (by rw[hF.size,Array.size_replicate]) j (by rw[hF.size];rw[Lib.decDigits_length]at hj;exact hj))
   rw[Lib.decDigits_length]at h
   exact h
  obtain ⟨os,eo⟩:=Lib.fin_at w (.cells Lib.zeros24 193) dk k 0
  have hb:Below w.heap.size w ((putRow (fun (b:UInt8)=>Value.int .u8 (b.toNat:Int)) (w.alloc (.cells Lib.zeros24 193)) w.heap.size 0 dk).drewN k):=by rw[eo];exact Lib.below_grow _ w (Nat.le_refl _) k os
  generalize (putRow (fun (b:UInt8)=>Value.int .u8 (b.toNat:Int)) (w.alloc (.cells Lib.zeros24 193)) w.heap.size 0 dk).drewN k=W2 at *
  clear eo
  go_wp2_with fail
  go_ret
  exact ⟨rfl,hb⟩
theorem strconv_FormatUint (w:World) (u:Nat) (hu64:u<18446744073709551616) (htab:Tab w) :
 Calls Tryz.prog 82 #[.int .u64 u,.int .i64 10] w (Keeps (.string ⟨(Lib.decDigits u).toArray⟩) w):=by
 have CS:=Lib.hid (internal_FormatUint w u hu64 htab)
 go_enter Tryz.func82,Tryz.ntmps82
 go_wp2_with fail
 refine CS.out.mono ?_
 rintro e w' ⟨rfl,hb⟩
 go_wp2_with fail
 go_ret
 exact ⟨rfl,hb⟩
end Go.Proofs.YtehbhghbagaliaaGreatDoor
