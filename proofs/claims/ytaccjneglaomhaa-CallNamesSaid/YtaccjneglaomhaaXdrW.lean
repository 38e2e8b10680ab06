/- Walk of jettylaw01.works. -/
import Derived.Test.YtaccjneglaomhaaRds
import Derived.Lib.SlBytesConst
set_option linter.unusedVariables false
namespace Go.Proofs.Ytaccjneglaomhaa
open Go.RowKit

set_option maxHeartbeats 8000000 in
set_option maxRecDepth 100000 in
theorem works01_any (w : World) : Calls Try.prog 58 #[] w fun e w' => e = .returned (.bool true) ∧ Below w.heap.size w w' := by
  have kc := fun (w : World) (C : Array Value) (n c : Nat) => Lib.run_convert_bytes_const (P := Try.prog) w 22 5 C n c Try.underlying22 Try.underlying5
  go_enter Try.func58, Try.ntmps58
  have h0 : Rds w.heap.size w [] := Rds.nil (Nat.le_refl _)
  have K0 : Below w.heap.size w w := Below.refl _ _
  go_wp2_with fail
  refine (newReader_l _ [0, 0, 0, 4, 97, 98, 99, 100] (h0.ext (ext_alloc _ _)) (rs_block (m := [0, 0, 0, 4, 97, 98, 99, 100]) (off := 0) (heap_alloc_last _ _) rfl (Nat.le_refl _)) (by simp)).mono ?_
  rintro e w1 ⟨g_a, rfl, h1, k1⟩
  replace k1 := Ext.trans (ext_alloc w _) k1
  have K1 : Below w.heap.size w w1 := Below.trans K0 (k1.mono h0.2.2)
  go_wp2_with fail
  refine (newReader_l _ [0, 0, 0, 2] (h1.ext (ext_alloc _ _)) (rs_block (m := [0, 0, 0, 2]) (off := 0) (heap_alloc_last _ _) rfl (Nat.le_refl _)) (by simp)).mono ?_
  rintro e w2 ⟨g_b, rfl, h2, k2⟩
  replace k2 := Ext.trans (ext_alloc w1 _) k2
  have K2 : Below w.heap.size w w2 := Below.trans K1 (k2.mono h1.2.2)
  go_wp2_with fail
  refine (newReader_l _ [0, 0, 0, 5, 97, 98, 99, 100, 101, 0, 0, 0, 0, 0, 0, 1] (h2.ext (ext_alloc _ _)) (rs_block (m := [0, 0, 0, 5, 97, 98, 99, 100, 101, 0, 0, 0, 0, 0, 0, 1]) (off := 0) (heap_alloc_last _ _) rfl (Nat.le_refl _)) (by simp)).mono ?_
  rintro e w3 ⟨g_c, rfl, h3, k3⟩
  replace k3 := Ext.trans (ext_alloc w2 _) k3
  have K3 : Below w.heap.size w w3 := Below.trans K2 (k3.mono h2.2.2)
  go_wp2_with fail
  refine (Word_l _ [] [0, 0, 0, 1] 1 RS.nil (by omega) (by omega) (by simp) (by decide +kernel)).mono ?_
  rintro e w4 ⟨v4, rfl, r4, k4⟩
  have h4 := h3.ext k4
  have cv4 : (convert 22 9 v4).run Try.prog w4 = .ok (.string ⟨#[0, 0, 0, 1]⟩) w4 := r4.cv
  have K4 : Below w.heap.size w w4 := Below.trans K3 (k4.mono h3.2.2)
  go_wp2_with fail
  refine (Int_l _ [] [255, 255, 255, 255, 255, 255, 255, 255] (-1) RS.nil (by omega) (by omega) (by simp) (by decide +kernel)).mono ?_
  rintro e w5 ⟨v5, rfl, r5, k5⟩
  have h5 := h4.ext k5
  have cv5 : (convert 22 9 v5).run Try.prog w5 = .ok (.string ⟨#[255, 255, 255, 255, 255, 255, 255, 255]⟩) w5 := r5.cv
  have K5 : Below w.heap.size w w5 := Below.trans K4 (k5.mono h4.2.2)
  go_wp2_with fail
  refine (Text_l _ [] [0, 0, 0, 5, 97, 98, 99, 100, 101, 0, 0, 0] [97, 98, 99, 100, 101] RS.nil (by simp) (by simp) (by decide +kernel)).mono ?_
  rintro e w6 ⟨v6, rfl, r6, k6⟩
  have h6 := h5.ext k6
  have cv6 : (convert 22 9 v6).run Try.prog w6 = .ok (.string ⟨#[0, 0, 0, 5, 97, 98, 99, 100, 101, 0, 0, 0]⟩) w6 := r6.cv
  have K6 : Below w.heap.size w w6 := Below.trans K5 (k6.mono h5.2.2)
  go_wp2_with fail
  refine (Fixed_l _ [120] [120, 97, 0, 0, 0] [97] (rs_block (m := [120]) (off := 0) (heap_alloc_last _ _) rfl (Nat.le_refl _)) (by simp) (by simp) (by decide +kernel)).mono ?_
  rintro e w7 ⟨v7, rfl, r7, k7⟩
  replace k7 := Ext.trans (ext_alloc w6 _) k7
  have h7 := h6.ext k7
  have cv7 : (convert 22 9 v7).run Try.prog w7 = .ok (.string ⟨#[120, 97, 0, 0, 0]⟩) w7 := r7.cv
  have K7 : Below w.heap.size w w7 := Below.trans K6 (k7.mono h6.2.2)
  go_wp2_with fail
  refine (text_l 2 (3) ⟨#[]⟩ none h7 rfl (by decide +kernel) (by decide +kernel) (by decide +kernel)).mono ?_
  rintro e w8 ⟨rfl, h8, k8⟩
  replace h8 : Rds w.heap.size w8 [(g_c, some [0, 0, 0, 5, 97, 98, 99, 100, 101, 0, 0, 0, 0, 0, 0, 1]), (g_b, some [0, 0, 0, 2]), (g_a, none)] := h8
  have K8 : Below w.heap.size w w8 := Below.trans K7 k8
  go_wp2_with fail
  refine (ok_l 2 false h8 rfl (by decide +kernel)).mono ?_
  rintro e w' ⟨rfl, rfl⟩
  go_wp2_with fail
  refine (flag_l 1 false none h8 rfl (by decide +kernel) (by decide +kernel)).mono ?_
  rintro e w9 ⟨rfl, h9, k9⟩
  replace h9 : Rds w.heap.size w9 [(g_c, some [0, 0, 0, 5, 97, 98, 99, 100, 101, 0, 0, 0, 0, 0, 0, 1]), (g_b, none), (g_a, none)] := h9
  have K9 : Below w.heap.size w w9 := Below.trans K8 k9
  go_wp2_with fail
  refine (ok_l 1 false h9 rfl (by decide +kernel)).mono ?_
  rintro e w' ⟨rfl, rfl⟩
  go_wp2_with fail
  refine (text_l 0 (5) ⟨#[97, 98, 99, 100, 101]⟩ (some [0, 0, 0, 1]) h9 rfl (by decide +kernel) (by decide +kernel) (by decide +kernel)).mono ?_
  rintro e w10 ⟨rfl, h10, k10⟩
  replace h10 : Rds w.heap.size w10 [(g_c, some [0, 0, 0, 1]), (g_b, none), (g_a, none)] := h10
  have K10 : Below w.heap.size w w10 := Below.trans K9 k10
  go_wp2_with fail
  refine (left_l 0 4 h10 rfl (by decide +kernel)).mono ?_
  rintro e w' ⟨rfl, rfl⟩
  go_wp2_with fail
  refine (flag_l 0 true (some []) h10 rfl (by decide +kernel) (by decide +kernel)).mono ?_
  rintro e w11 ⟨rfl, h11, k11⟩
  replace h11 : Rds w.heap.size w11 [(g_c, some []), (g_b, none), (g_a, none)] := h11
  have K11 : Below w.heap.size w w11 := Below.trans K10 k11
  go_wp2_with fail
  refine (done_l 0 true h11 rfl (by decide +kernel)).mono ?_
  rintro e w' ⟨rfl, rfl⟩
  go_wp2_with fail
  go_ret
  exact ⟨rfl, K11⟩
end Go.Proofs.Ytaccjneglaomhaa
