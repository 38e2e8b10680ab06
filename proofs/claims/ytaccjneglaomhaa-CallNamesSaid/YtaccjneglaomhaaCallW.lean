/- Walk of jettylaw03.works. -/
import Derived.Test.YtaccjneglaomhaaCallH
set_option linter.unusedVariables false
namespace Go.Proofs.Ytaccjneglaomhaa
open Go.RowKit

set_option maxHeartbeats 8000000 in
set_option maxRecDepth 100000 in
theorem works03_any (w : World) : Calls Try.prog 56 #[] w fun e w' => e = .returned (.bool true) ∧ Below w.heap.size w w' := by
  go_enter Try.func56, Try.ntmps56
  have X0 : Ext w w := Ext.refl w
  go_wp2_with fail
  refine (cWrite_e (1) (7) (1) [] (.tuple #[.string (str [0, 0, 0, 7, 0, 0, 0, 0, 0, 0, 1, 28, 0, 0, 0, 3, 0, 0, 0, 1, 0, 0, 0, 1]), .int .i64 0]) (by kernel_rfl) (by simp)).mono ?_
  rintro e w1 ⟨rfl, k1⟩
  have x1 : Ext w w1 := Ext.trans (Ext.refl w) k1
  have X1 : Ext w w1 := Ext.trans X0 x1
  clear k1 x1 X0
  go_wp2_with fail
  refine (lw_e [7, 0, 284, 3, 1, 1] [0, 0, 0, 7, 0, 0, 0, 0, 0, 0, 1, 28, 0, 0, 0, 3, 0, 0, 0, 1, 0, 0, 0, 1] _ 6 (by simp) rfl (by simp) (by decide +kernel)).mono ?_
  rintro e w2 ⟨rfl, k2⟩
  have x2 : Ext w1 w2 := Ext.trans (Ext.refl w1) k2
  have X2 : Ext w w2 := Ext.trans X1 x2
  clear k2 x2 X1
  go_wp2_with fail
  refine (cRead_e [0, 0, 0, 7, 0, 0, 0, 0, 0, 0, 1, 28, 0, 0, 0, 3, 0, 0, 0, 1, 0, 0, 0, 1] (.tuple #[.agg #[.int .i64 1, .int .i64 7, .int .i64 1, .string ⟨#[]⟩], .int .i64 0]) (by kernel_rfl) (by simp)).mono ?_
  rintro e w3 ⟨rfl, k3⟩
  have x3 : Ext w2 w3 := Ext.trans (Ext.refl w2) k3
  have X3 : Ext w w3 := Ext.trans X2 x3
  clear k3 x3 X2
  go_wp2_with fail
  refine (lw_e [7, 0, 285, 3, 1, 1] [0, 0, 0, 7, 0, 0, 0, 0, 0, 0, 1, 29, 0, 0, 0, 3, 0, 0, 0, 1, 0, 0, 0, 1] _ 6 (by simp) rfl (by simp) (by decide +kernel)).mono ?_
  rintro e w4 ⟨rfl, k4⟩
  have x4 : Ext w3 w4 := Ext.trans (ext_alloc w3 _) k4
  have X4 : Ext w w4 := Ext.trans X3 x4
  have B_h := Lib.hid ((Below.block k4 w3.heap.size (by simp)).trans (heap_alloc_last w3 _))
  clear k4 x4 X3
  go_wp2_with fail
  refine (cRead_e [0, 0, 0, 7, 0, 0, 0, 0, 0, 0, 1, 29, 0, 0, 0, 3, 0, 0, 0, 1, 0, 0, 0, 1] (.tuple #[.agg #[.int .i64 1, .int .i64 7, .int .i64 1, .string ⟨#[]⟩], .int .i64 63]) (by kernel_rfl) (by simp)).mono ?_
  rintro e w5 ⟨rfl, k5⟩
  have x5 : Ext w4 w5 := Ext.trans (Ext.refl w4) k5
  have X5 : Ext w w5 := Ext.trans X4 x5
  replace B_h := Lib.hid ((Below.block x5 _ (Array.getElem?_eq_some_iff.1 B_h.out).1).trans B_h.out)
  clear k5 x5 X4
  go_wp2_with fail
  refine (lw_e [7, 0, 284, 3, 1, 19] [0, 0, 0, 7, 0, 0, 0, 0, 0, 0, 1, 28, 0, 0, 0, 3, 0, 0, 0, 1, 0, 0, 0, 19] _ 6 (by simp) rfl (by simp) (by decide +kernel)).mono ?_
  rintro e w6 ⟨rfl, k6⟩
  have x6 : Ext w5 w6 := Ext.trans (ext_alloc w5 _) k6
  have X6 : Ext w w6 := Ext.trans X5 x6
  replace B_h := Lib.hid ((Below.block x6 _ (Array.getElem?_eq_some_iff.1 B_h.out).1).trans B_h.out)
  have B_i := Lib.hid ((Below.block k6 w5.heap.size (by simp)).trans (heap_alloc_last w5 _))
  clear k6 x6 X5
  go_wp2_with fail
  refine (cRead_e [0, 0, 0, 7, 0, 0, 0, 0, 0, 0, 1, 28, 0, 0, 0, 3, 0, 0, 0, 1, 0, 0, 0, 19] (.tuple #[.agg #[.int .i64 1, .int .i64 7, .int .i64 19, .string ⟨#[]⟩], .int .i64 62]) (by kernel_rfl) (by simp)).mono ?_
  rintro e w7 ⟨rfl, k7⟩
  have x7 : Ext w6 w7 := Ext.trans (Ext.refl w6) k7
  have X7 : Ext w w7 := Ext.trans X6 x7
  replace B_h := Lib.hid ((Below.block x7 _ (Array.getElem?_eq_some_iff.1 B_h.out).1).trans B_h.out)
  replace B_i := Lib.hid ((Below.block x7 _ (Array.getElem?_eq_some_iff.1 B_i.out).1).trans B_i.out)
  clear k7 x7 X6
  go_wp2_with fail
  refine (lw_e [7, 0, 284, 3, 17, 1] [0, 0, 0, 7, 0, 0, 0, 0, 0, 0, 1, 28, 0, 0, 0, 3, 0, 0, 0, 17, 0, 0, 0, 1] _ 6 (by simp) rfl (by simp) (by decide +kernel)).mono ?_
  rintro e w8 ⟨rfl, k8⟩
  have x8 : Ext w7 w8 := Ext.trans (ext_alloc w7 _) k8
  have X8 : Ext w w8 := Ext.trans X7 x8
  replace B_h := Lib.hid ((Below.block x8 _ (Array.getElem?_eq_some_iff.1 B_h.out).1).trans B_h.out)
  replace B_i := Lib.hid ((Below.block x8 _ (Array.getElem?_eq_some_iff.1 B_i.out).1).trans B_i.out)
  have B_j := Lib.hid ((Below.block k8 w7.heap.size (by simp)).trans (heap_alloc_last w7 _))
  clear k8 x8 X7
  go_wp2_with fail
  refine (cRead_e [0, 0, 0, 7, 0, 0, 0, 0, 0, 0, 1, 28, 0, 0, 0, 3, 0, 0, 0, 17, 0, 0, 0, 1] (.tuple #[.agg #[.int .i64 0, .int .i64 0, .int .i64 0, .string ⟨#[]⟩], .int .i64 4]) (by kernel_rfl) (by simp)).mono ?_
  rintro e w9 ⟨rfl, k9⟩
  have x9 : Ext w8 w9 := Ext.trans (Ext.refl w8) k9
  have X9 : Ext w w9 := Ext.trans X8 x9
  replace B_h := Lib.hid ((Below.block x9 _ (Array.getElem?_eq_some_iff.1 B_h.out).1).trans B_h.out)
  replace B_i := Lib.hid ((Below.block x9 _ (Array.getElem?_eq_some_iff.1 B_i.out).1).trans B_i.out)
  replace B_j := Lib.hid ((Below.block x9 _ (Array.getElem?_eq_some_iff.1 B_j.out).1).trans B_j.out)
  clear k9 x9 X8
  go_wp2_with fail
  refine (cTell_e (7) (62) [] (.tuple #[.string (str [0, 0, 0, 7, 0, 0, 0, 1, 0, 0, 0, 62]), .int .i64 0]) (by kernel_rfl) (by simp)).mono ?_
  rintro e w10 ⟨rfl, k10⟩
  have x10 : Ext w9 w10 := Ext.trans (ext_alloc w9 _) k10
  have X10 : Ext w w10 := Ext.trans X9 x10
  replace B_h := Lib.hid ((Below.block x10 _ (Array.getElem?_eq_some_iff.1 B_h.out).1).trans B_h.out)
  replace B_i := Lib.hid ((Below.block x10 _ (Array.getElem?_eq_some_iff.1 B_i.out).1).trans B_i.out)
  replace B_j := Lib.hid ((Below.block x10 _ (Array.getElem?_eq_some_iff.1 B_j.out).1).trans B_j.out)
  have B_k := Lib.hid ((Below.block k10 w9.heap.size (by simp)).trans (heap_alloc_last w9 _))
  clear k10 x10 X9
  go_wp2_with fail
  refine (lw_e [7, 0, 284, 3, 1, 1] [0, 0, 0, 7, 0, 0, 0, 0, 0, 0, 1, 28, 0, 0, 0, 3, 0, 0, 0, 1, 0, 0, 0, 1] _ 6 (by simp) rfl (by simp) (by decide +kernel)).mono ?_
  rintro e w11 ⟨rfl, k11⟩
  have x11 : Ext w10 w11 := Ext.trans (Ext.refl w10) k11
  have X11 : Ext w w11 := Ext.trans X10 x11
  replace B_h := Lib.hid ((Below.block x11 _ (Array.getElem?_eq_some_iff.1 B_h.out).1).trans B_h.out)
  replace B_i := Lib.hid ((Below.block x11 _ (Array.getElem?_eq_some_iff.1 B_i.out).1).trans B_i.out)
  replace B_j := Lib.hid ((Below.block x11 _ (Array.getElem?_eq_some_iff.1 B_j.out).1).trans B_j.out)
  replace B_k := Lib.hid ((Below.block x11 _ (Array.getElem?_eq_some_iff.1 B_k.out).1).trans B_k.out)
  clear k11 x11 X10
  obtain ⟨c_h0, c_h1, c_h2, c_h3, -, -, -, -, lt_h⟩ := blk4 B_h.out
  obtain ⟨c_i0, c_i1, c_i2, c_i3, -, -, -, -, lt_i⟩ := blk4 B_i.out
  go_wp2_with fail
  refine (lw_e [7, 1, 62] [0, 0, 0, 7, 0, 0, 0, 1, 0, 0, 0, 62] _ 3 (by simp) rfl (by simp) (by decide +kernel)).mono ?_
  rintro e w12 ⟨rfl, k12⟩
  have x12 : Ext w11 w12 := Ext.trans (Ext.refl w11) k12
  have X12 : Ext w w12 := Ext.trans X11 x12
  replace B_h := Lib.hid ((Below.block x12 _ (Array.getElem?_eq_some_iff.1 B_h.out).1).trans B_h.out)
  replace B_i := Lib.hid ((Below.block x12 _ (Array.getElem?_eq_some_iff.1 B_i.out).1).trans B_i.out)
  replace B_j := Lib.hid ((Below.block x12 _ (Array.getElem?_eq_some_iff.1 B_j.out).1).trans B_j.out)
  replace B_k := Lib.hid ((Below.block x12 _ (Array.getElem?_eq_some_iff.1 B_k.out).1).trans B_k.out)
  clear k12 x12 X11
  go_wp2_with fail
  go_ret
  exact ⟨rfl, X12⟩
end Go.Proofs.Ytaccjneglaomhaa
