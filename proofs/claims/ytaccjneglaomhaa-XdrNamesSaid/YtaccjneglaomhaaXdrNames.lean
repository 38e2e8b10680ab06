/- The claim XdrNames: the walk of its law, and the statement. -/
import Derived.Test.YtaccjneglaomhaaXdrW
set_option linter.unusedVariables false
namespace Go.Proofs.Ytaccjneglaomhaa.xdrNames
open Go.RowKit Go.ChangeShapes Go.WideShapes Go.ChangeAt Go.Deep Go.Proofs.Ytaccjneglaomhaa

set_option maxHeartbeats 16000000 in
set_option maxRecDepth 100000 in
theorem walk (w : World) : Calls Try.prog 13 #[] w fun e w' => e = .returned (.bool true) ∧ Below w.heap.size w w' := by
  have kc := fun (w : World) (C : Array Value) (n c : Nat) => Lib.run_convert_bytes_const (P := Try.prog) w 22 5 C n c Try.underlying22 Try.underlying5
  go_enter Try.func13, Try.ntmps13
  have h0 : Rds w.heap.size w [] := Rds.nil (Nat.le_refl _)
  have K0 : Below w.heap.size w w := Below.refl _ _
  go_wp2_with fail
  refine (works01_any _).mono ?_
  rintro e w1 ⟨rfl, k1⟩
  replace k1 : Ext w w1 := k1
  have h1 := h0.ext k1
  have K1 : Below w.heap.size w w1 := Below.trans K0 (k1.mono h0.2.2)
  clear k1 h0 K0
  go_wp2_with fail
  refine (Long_l _ [] [1, 2, 3, 4, 5, 6, 7, 8] 72623859790382856 RS.nil (by omega) (by omega) (by simp) (by decide +kernel)).mono ?_
  rintro e w2 ⟨v2, rfl, r2, k2⟩
  have h2 := h1.ext k2
  have cv2 : (convert 22 9 v2).run Try.prog w2 = .ok (.string ⟨#[1, 2, 3, 4, 5, 6, 7, 8]⟩) w2 := r2.cv
  have K2 : Below w.heap.size w w2 := Below.trans K1 (k2.mono h1.2.2)
  clear k2 h1 K1
  go_wp2_with fail
  clear cv2 r2
  refine (Word_l _ [] [255, 254, 253, 252] 4294901244 RS.nil (by omega) (by omega) (by simp) (by decide +kernel)).mono ?_
  rintro e w3 ⟨v3, rfl, r3, k3⟩
  have h3 := h2.ext k3
  have cv3 : (convert 22 9 v3).run Try.prog w3 = .ok (.string ⟨#[255, 254, 253, 252]⟩) w3 := r3.cv
  have K3 : Below w.heap.size w w3 := Below.trans K2 (k3.mono h2.2.2)
  clear k3 h2 K2
  go_wp2_with fail
  clear cv3 r3
  refine (Flag_l _ [] [0, 0, 0, 1] true RS.nil (by simp) (by decide +kernel)).mono ?_
  rintro e w4 ⟨v4, rfl, r4, k4⟩
  have h4 := h3.ext k4
  have cv4 : (convert 22 9 v4).run Try.prog w4 = .ok (.string ⟨#[0, 0, 0, 1]⟩) w4 := r4.cv
  have K4 : Below w.heap.size w w4 := Below.trans K3 (k4.mono h3.2.2)
  clear k4 h3 K3
  go_wp2_with fail
  clear cv4 r4
  refine (Flag_l _ [] [0, 0, 0, 0] false RS.nil (by simp) (by decide +kernel)).mono ?_
  rintro e w5 ⟨v5, rfl, r5, k5⟩
  have h5 := h4.ext k5
  have cv5 : (convert 22 9 v5).run Try.prog w5 = .ok (.string ⟨#[0, 0, 0, 0]⟩) w5 := r5.cv
  have K5 : Below w.heap.size w w5 := Below.trans K4 (k5.mono h4.2.2)
  clear k5 h4 K4
  go_wp2_with fail
  clear cv5 r5
  refine (Text_l _ [] [0, 0, 0, 0] [] RS.nil (by simp) (by simp) (by decide +kernel)).mono ?_
  rintro e w6 ⟨v6, rfl, r6, k6⟩
  have h6 := h5.ext k6
  have cv6 : (convert 22 9 v6).run Try.prog w6 = .ok (.string ⟨#[0, 0, 0, 0]⟩) w6 := r6.cv
  have K6 : Below w.heap.size w w6 := Below.trans K5 (k6.mono h5.2.2)
  clear k6 h5 K5
  go_wp2_with fail
  clear cv6 r6
  refine (Fixed_l _ [] [] [] RS.nil (by simp) (by simp) (by decide +kernel)).mono ?_
  rintro e w7 ⟨v7, rfl, r7, k7⟩
  have h7 := h6.ext k7
  have K7 : Below w.heap.size w w7 := Below.trans K6 (k7.mono h6.2.2)
  clear k7 h6 K6
  obtain ⟨A7, c7, rfl⟩ := r7.form
  go_wp2_with fail
  refine (Fixed_l _ [] [97, 98, 99, 100] [97, 98, 99, 100] RS.nil (by simp) (by simp) (by decide +kernel)).mono ?_
  rintro e w8 ⟨v8, rfl, r8, k8⟩
  have h8 := h7.ext k8
  have cv8 : (convert 22 9 v8).run Try.prog w8 = .ok (.string ⟨#[97, 98, 99, 100]⟩) w8 := r8.cv
  have K8 : Below w.heap.size w w8 := Below.trans K7 (k8.mono h7.2.2)
  clear k8 h7 K7
  go_wp2_with fail
  clear cv8 r8
  refine (newReader_l _ [97, 98, 99] (h8.ext (ext_alloc _ _)) (rs_block (m := [97, 98, 99]) (off := 0) (heap_alloc_last _ _) rfl (Nat.le_refl _)) (by simp)).mono ?_
  rintro e w9 ⟨g_a, rfl, h9, k9⟩
  replace k9 := Ext.trans (ext_alloc w8 _) k9
  have K9 : Below w.heap.size w w9 := Below.trans K8 (k9.mono h8.2.2)
  clear k9 h8 K8
  go_wp2_with fail
  refine (newReader_l _ [97, 98, 99, 1] (h9.ext (ext_alloc _ _)) (rs_block (m := [97, 98, 99, 1]) (off := 0) (heap_alloc_last _ _) rfl (Nat.le_refl _)) (by simp)).mono ?_
  rintro e w10 ⟨g_b, rfl, h10, k10⟩
  replace k10 := Ext.trans (ext_alloc w9 _) k10
  have K10 : Below w.heap.size w w10 := Below.trans K9 (k10.mono h9.2.2)
  clear k10 h9 K9
  go_wp2_with fail
  refine (newReader_l _ [97, 98, 0, 0, 120, 121] (h10.ext (ext_alloc _ _)) (rs_block (m := [97, 98, 0, 0, 120, 121]) (off := 0) (heap_alloc_last _ _) rfl (Nat.le_refl _)) (by simp)).mono ?_
  rintro e w11 ⟨g_c, rfl, h11, k11⟩
  replace k11 := Ext.trans (ext_alloc w10 _) k11
  have K11 : Below w.heap.size w w11 := Below.trans K10 (k11.mono h10.2.2)
  clear k11 h10 K10
  go_wp2_with fail
  refine (newReader_l _ [255, 255, 255, 255] (h11.ext (ext_alloc _ _)) (rs_block (m := [255, 255, 255, 255]) (off := 0) (heap_alloc_last _ _) rfl (Nat.le_refl _)) (by simp)).mono ?_
  rintro e w12 ⟨g_d, rfl, h12, k12⟩
  replace k12 := Ext.trans (ext_alloc w11 _) k12
  have K12 : Below w.heap.size w w12 := Below.trans K11 (k12.mono h11.2.2)
  clear k12 h11 K11
  go_wp2_with fail
  refine (newReader_l _ [0, 0, 0, 9] (h12.ext (ext_alloc _ _)) (rs_block (m := [0, 0, 0, 9]) (off := 0) (heap_alloc_last _ _) rfl (Nat.le_refl _)) (by simp)).mono ?_
  rintro e w13 ⟨g_e, rfl, h13, k13⟩
  replace k13 := Ext.trans (ext_alloc w12 _) k13
  have K13 : Below w.heap.size w w13 := Below.trans K12 (k13.mono h12.2.2)
  clear k13 h12 K12
  go_wp2_with fail
  refine (newReader_l _ [0, 0, 0, 0, 0, 0, 0, 7, 0] (h13.ext (ext_alloc _ _)) (rs_block (m := [0, 0, 0, 0, 0, 0, 0, 7, 0]) (off := 0) (heap_alloc_last _ _) rfl (Nat.le_refl _)) (by simp)).mono ?_
  rintro e w14 ⟨g_f, rfl, h14, k14⟩
  replace k14 := Ext.trans (ext_alloc w13 _) k14
  have K14 : Below w.heap.size w w14 := Below.trans K13 (k14.mono h13.2.2)
  clear k14 h13 K13
  go_wp2_with fail
  refine (word_l 5 0 none h14 rfl (by decide +kernel) (by decide +kernel)).mono ?_
  rintro e w15 ⟨rfl, h15, k15⟩
  replace h15 : Rds w.heap.size w15 [(g_f, some [0, 0, 0, 0, 0, 0, 0, 7, 0]), (g_e, some [0, 0, 0, 9]), (g_d, some [255, 255, 255, 255]), (g_c, some [97, 98, 0, 0, 120, 121]), (g_b, some [97, 98, 99, 1]), (g_a, none)] := h15
  have K15 : Below w.heap.size w w15 := Below.trans K14 k15
  clear k15 h14 K14
  go_wp2_with fail
  refine (ok_l 5 false h15 rfl (by decide +kernel)).mono ?_
  rintro e w' ⟨rfl, rfl⟩
  go_wp2_with fail
  refine (left_l 5 0 h15 rfl (by decide +kernel)).mono ?_
  rintro e w' ⟨rfl, rfl⟩
  go_wp2_with fail
  refine (fixed_l 4 (3) ⟨#[]⟩ none h15 rfl (by decide +kernel) (by decide +kernel) (by decide +kernel)).mono ?_
  rintro e w16 ⟨rfl, h16, k16⟩
  replace h16 : Rds w.heap.size w16 [(g_f, some [0, 0, 0, 0, 0, 0, 0, 7, 0]), (g_e, some [0, 0, 0, 9]), (g_d, some [255, 255, 255, 255]), (g_c, some [97, 98, 0, 0, 120, 121]), (g_b, none), (g_a, none)] := h16
  have K16 : Below w.heap.size w w16 := Below.trans K15 k16
  clear k16 h15 K15
  go_wp2_with fail
  refine (ok_l 4 false h16 rfl (by decide +kernel)).mono ?_
  rintro e w' ⟨rfl, rfl⟩
  go_wp2_with fail
  refine (fixed_l 3 (2) ⟨#[97, 98]⟩ (some [120, 121]) h16 rfl (by decide +kernel) (by decide +kernel) (by decide +kernel)).mono ?_
  rintro e w17 ⟨rfl, h17, k17⟩
  replace h17 : Rds w.heap.size w17 [(g_f, some [0, 0, 0, 0, 0, 0, 0, 7, 0]), (g_e, some [0, 0, 0, 9]), (g_d, some [255, 255, 255, 255]), (g_c, some [120, 121]), (g_b, none), (g_a, none)] := h17
  have K17 : Below w.heap.size w w17 := Below.trans K16 k17
  clear k17 h16 K16
  go_wp2_with fail
  refine (fixed_l 3 (-1) ⟨#[]⟩ none h17 rfl (by decide +kernel) (by decide +kernel) (by decide +kernel)).mono ?_
  rintro e w18 ⟨rfl, h18, k18⟩
  replace h18 : Rds w.heap.size w18 [(g_f, some [0, 0, 0, 0, 0, 0, 0, 7, 0]), (g_e, some [0, 0, 0, 9]), (g_d, some [255, 255, 255, 255]), (g_c, none), (g_b, none), (g_a, none)] := h18
  have K18 : Below w.heap.size w w18 := Below.trans K17 k18
  clear k18 h17 K17
  go_wp2_with fail
  refine (ok_l 3 false h18 rfl (by decide +kernel)).mono ?_
  rintro e w' ⟨rfl, rfl⟩
  go_wp2_with fail
  refine (left_l 3 0 h18 rfl (by decide +kernel)).mono ?_
  rintro e w' ⟨rfl, rfl⟩
  go_wp2_with fail
  refine (count_l 2 (100) 0 none h18 rfl (by decide +kernel) (by decide +kernel)).mono ?_
  rintro e w19 ⟨rfl, h19, k19⟩
  replace h19 : Rds w.heap.size w19 [(g_f, some [0, 0, 0, 0, 0, 0, 0, 7, 0]), (g_e, some [0, 0, 0, 9]), (g_d, none), (g_c, none), (g_b, none), (g_a, none)] := h19
  have K19 : Below w.heap.size w w19 := Below.trans K18 k19
  clear k19 h18 K18
  go_wp2_with fail
  refine (ok_l 2 false h19 rfl (by decide +kernel)).mono ?_
  rintro e w' ⟨rfl, rfl⟩
  go_wp2_with fail
  refine (count_l 1 (9) 9 (some []) h19 rfl (by decide +kernel) (by decide +kernel)).mono ?_
  rintro e w20 ⟨rfl, h20, k20⟩
  replace h20 : Rds w.heap.size w20 [(g_f, some [0, 0, 0, 0, 0, 0, 0, 7, 0]), (g_e, some []), (g_d, none), (g_c, none), (g_b, none), (g_a, none)] := h20
  have K20 : Below w.heap.size w w20 := Below.trans K19 k20
  clear k20 h19 K19
  go_wp2_with fail
  refine (done_l 1 true h20 rfl (by decide +kernel)).mono ?_
  rintro e w' ⟨rfl, rfl⟩
  go_wp2_with fail
  refine (long_l 0 7 (some [0]) h20 rfl (by decide +kernel) (by decide +kernel)).mono ?_
  rintro e w21 ⟨rfl, h21, k21⟩
  replace h21 : Rds w.heap.size w21 [(g_f, some [0]), (g_e, some []), (g_d, none), (g_c, none), (g_b, none), (g_a, none)] := h21
  have K21 : Below w.heap.size w w21 := Below.trans K20 k21
  clear k21 h20 K20
  go_wp2_with fail
  refine (ok_l 0 true h21 rfl (by decide +kernel)).mono ?_
  rintro e w' ⟨rfl, rfl⟩
  go_wp2_with fail
  refine (done_l 0 false h21 rfl (by decide +kernel)).mono ?_
  rintro e w' ⟨rfl, rfl⟩
  go_wp2_with fail
  refine (left_l 0 1 h21 rfl (by decide +kernel)).mono ?_
  rintro e w' ⟨rfl, rfl⟩
  go_wp2_with fail
  refine (newReader_l _ [0, 0, 0, 0, 0, 0, 0, 1] (h21.ext (ext_alloc _ _)) (rs_block (m := [0, 0, 0, 0, 0, 0, 0, 1]) (off := 0) (heap_alloc_last _ _) rfl (Nat.le_refl _)) (by simp)).mono ?_
  rintro e w22 ⟨g_g, rfl, h22, k22⟩
  replace k22 := Ext.trans (ext_alloc w21 _) k22
  have K22 : Below w.heap.size w w22 := Below.trans K21 (k22.mono h21.2.2)
  clear k22 h21 K21
  go_wp2_with fail
  refine (Int_l _ [] [128, 0, 0, 0, 0, 0, 0, 0] (-9223372036854775808) RS.nil (by omega) (by omega) (by simp) (by decide +kernel)).mono ?_
  rintro e w23 ⟨v23, rfl, r23, k23⟩
  have h23 := h22.ext k23
  have K23 : Below w.heap.size w w23 := Below.trans K22 (k23.mono h22.2.2)
  clear k23 h22 K22
  go_wp2_with fail
  refine (newReader_l _ [128, 0, 0, 0, 0, 0, 0, 0] h23 r23 (by simp)).mono ?_
  rintro e w24 ⟨g_h, rfl, h24, k24⟩
  have K24 : Below w.heap.size w w24 := Below.trans K23 (k24.mono h23.2.2)
  clear k24 h23 K23
  go_wp2_with fail
  refine (newReader_l _ [97, 98, 99, 100, 101, 102] (h24.ext (ext_alloc _ _)) (rs_block (m := [97, 98, 99, 100, 101, 102]) (off := 0) (heap_alloc_last _ _) rfl (Nat.le_refl _)) (by simp)).mono ?_
  rintro e w25 ⟨g_i, rfl, h25, k25⟩
  replace k25 := Ext.trans (ext_alloc w24 _) k25
  have K25 : Below w.heap.size w w25 := Below.trans K24 (k25.mono h24.2.2)
  clear k25 h24 K24
  go_wp2_with fail
  refine (newReader_l _ [] h25 RS.nil (by simp)).mono ?_
  rintro e w26 ⟨g_j, rfl, h26, k26⟩
  have K26 : Below w.heap.size w w26 := Below.trans K25 (k26.mono h25.2.2)
  clear k26 h25 K25
  go_wp2_with fail
  refine (text_l 3 (-5) ⟨#[]⟩ (some [0, 0, 0, 1]) h26 rfl (by decide +kernel) (by decide +kernel) (by decide +kernel)).mono ?_
  rintro e w27 ⟨rfl, h27, k27⟩
  replace h27 : Rds w.heap.size w27 [(g_j, some []), (g_i, some [97, 98, 99, 100, 101, 102]), (g_h, some [128, 0, 0, 0, 0, 0, 0, 0]), (g_g, some [0, 0, 0, 1]), (g_f, some [0]), (g_e, some []), (g_d, none), (g_c, none), (g_b, none), (g_a, none)] := h27
  have K27 : Below w.heap.size w w27 := Below.trans K26 k27
  clear k27 h26 K26
  go_wp2_with fail
  refine (ok_l 3 true h27 rfl (by decide +kernel)).mono ?_
  rintro e w' ⟨rfl, rfl⟩
  go_wp2_with fail
  refine (text_l 3 (-5) ⟨#[]⟩ none h27 rfl (by decide +kernel) (by decide +kernel) (by decide +kernel)).mono ?_
  rintro e w28 ⟨rfl, h28, k28⟩
  replace h28 : Rds w.heap.size w28 [(g_j, some []), (g_i, some [97, 98, 99, 100, 101, 102]), (g_h, some [128, 0, 0, 0, 0, 0, 0, 0]), (g_g, none), (g_f, some [0]), (g_e, some []), (g_d, none), (g_c, none), (g_b, none), (g_a, none)] := h28
  have K28 : Below w.heap.size w w28 := Below.trans K27 k28
  clear k28 h27 K27
  go_wp2_with fail
  refine (ok_l 3 false h28 rfl (by decide +kernel)).mono ?_
  rintro e w' ⟨rfl, rfl⟩
  go_wp2_with fail
  refine (int_l 2 (-9223372036854775808) (some []) h28 rfl (by decide +kernel) (by decide +kernel)).mono ?_
  rintro e w29 ⟨rfl, h29, k29⟩
  replace h29 : Rds w.heap.size w29 [(g_j, some []), (g_i, some [97, 98, 99, 100, 101, 102]), (g_h, some []), (g_g, none), (g_f, some [0]), (g_e, some []), (g_d, none), (g_c, none), (g_b, none), (g_a, none)] := h29
  have K29 : Below w.heap.size w w29 := Below.trans K28 k29
  clear k29 h28 K28
  go_wp2_with fail
  refine (done_l 2 true h29 rfl (by decide +kernel)).mono ?_
  rintro e w' ⟨rfl, rfl⟩
  go_wp2_with fail
  refine (long_l 1 0 none h29 rfl (by decide +kernel) (by decide +kernel)).mono ?_
  rintro e w30 ⟨rfl, h30, k30⟩
  replace h30 : Rds w.heap.size w30 [(g_j, some []), (g_i, none), (g_h, some []), (g_g, none), (g_f, some [0]), (g_e, some []), (g_d, none), (g_c, none), (g_b, none), (g_a, none)] := h30
  have K30 : Below w.heap.size w w30 := Below.trans K29 k30
  clear k30 h29 K29
  go_wp2_with fail
  refine (ok_l 1 false h30 rfl (by decide +kernel)).mono ?_
  rintro e w' ⟨rfl, rfl⟩
  go_wp2_with fail
  refine (done_l 0 true h30 rfl (by decide +kernel)).mono ?_
  rintro e w' ⟨rfl, rfl⟩
  go_wp2_with fail
  refine (fixed_l 0 (0) ⟨#[]⟩ (some []) h30 rfl (by decide +kernel) (by decide +kernel) (by decide +kernel)).mono ?_
  rintro e w31 ⟨rfl, h31, k31⟩
  replace h31 : Rds w.heap.size w31 [(g_j, some []), (g_i, none), (g_h, some []), (g_g, none), (g_f, some [0]), (g_e, some []), (g_d, none), (g_c, none), (g_b, none), (g_a, none)] := h31
  have K31 : Below w.heap.size w w31 := Below.trans K30 k31
  clear k31 h30 K30
  go_wp2_with fail
  refine (ok_l 0 true h31 rfl (by decide +kernel)).mono ?_
  rintro e w' ⟨rfl, rfl⟩
  go_wp2_with fail
  refine (fixed_l 0 (1) ⟨#[]⟩ none h31 rfl (by decide +kernel) (by decide +kernel) (by decide +kernel)).mono ?_
  rintro e w32 ⟨rfl, h32, k32⟩
  replace h32 : Rds w.heap.size w32 [(g_j, none), (g_i, none), (g_h, some []), (g_g, none), (g_f, some [0]), (g_e, some []), (g_d, none), (g_c, none), (g_b, none), (g_a, none)] := h32
  have K32 : Below w.heap.size w w32 := Below.trans K31 k32
  clear k32 h31 K31
  go_wp2_with fail
  refine (ok_l 0 false h32 rfl (by decide +kernel)).mono ?_
  rintro e w' ⟨rfl, rfl⟩
  go_wp2_with (first | (go_at_call 38; refine (word_nil _).mono ?_; rintro e w' ⟨rfl, rfl⟩) | (go_at_call 40; refine (long_nil _).mono ?_; rintro e w' ⟨rfl, rfl⟩) | (go_at_call 42; refine (int_nil _).mono ?_; rintro e w' ⟨rfl, rfl⟩) | (go_at_call 44; refine (flag_nil _).mono ?_; rintro e w' ⟨rfl, rfl⟩) | (go_at_call 46; refine (text_nil _ (by omega) _).mono ?_; rintro e w' ⟨rfl, rfl⟩) | (go_at_call 48; refine (fixed_nil _ _).mono ?_; rintro e w' ⟨rfl, rfl⟩) | (go_at_call 50; refine (count_nil _ (by omega) _).mono ?_; rintro e w' ⟨rfl, rfl⟩) | (go_at_call 53; refine (left_nil _).mono ?_; rintro e w' ⟨rfl, rfl⟩) | (go_at_call 52; refine (ok_nil _).mono ?_; rintro e w' ⟨rfl, rfl⟩) | (go_at_call 54; refine (done_nil _).mono ?_; rintro e w' ⟨rfl, rfl⟩))
  go_ret
  exact ⟨rfl, K32⟩

theorem own : ownKnob Try.prog.godebug = none := by kernel_rfl
theorem laidOut : laidOutB Try.prog = true := by kernel_rfl

set_option maxRecDepth 100000 in
theorem lifted (os : Os) (started : os.Started) (H : Type) (enc : TypeId × Value → H) :
    ReturnsInHanded {} Try.checked os 13 .any (Rows.xdrNamesSpec.pre6 enc Try.prog Try.f13 Rows.xdrNamesRow.domain false) (Rows.xdrNamesSpec.post enc Try.prog Try.f13 false true false false) := by
  refine returnsInHanded_of_change (C := Try.checked) own started (by kernel_rfl) Try.func13
    (ChangeSpec.witness6 (enc := enc) (C := Try.checked) false ⟨#[], #[], []⟩ 8 (by kernel_rfl) (by kernel_rfl) (by kernel_rfl) (by kernel_rfl)) ?_
  intro W base args ds gs before hval0 hW hcnd _
  have hval : ∀ (j : Nat) t v, Try.f13.params[j]? = some t → args[j]? = some v → Value.okWide Try.prog W .any base t v := hval0
  have hW' := hW
  obtain ⟨p, q, hA0, hV, rfl, hfz, hnd⟩ := hW
  have hA : DataW.TrodAll enc Try.prog W 0 (fun _ => true) true Try.f13.params.toList args.toList ds p := hA0
  rw [Try.params13] at hA hval
  obtain ⟨rfl, rfl, rfl⟩ := trodAll_none hA
  obtain ⟨rfl, rfl⟩ := trodVars_none hV
  refine (walk  W).mono fun e W' ⟨he, bel⟩ => ?_
  subst he
  exact ⟨_, rfl, _, _, _, [], _, [], hW', trodAll_mk1 (shut_bool Try.underlying4 _), trodAll_mk0, rfl, bel.frame _, fun h => by cases h⟩

theorem proved : Rows.XdrNamesSaid :=
  OpenClaim.holds_of_wide 13 Try.f13 rfl rfl rfl rfl rfl rfl rfl ⟨rfl, rfl, rfl, rfl, rfl⟩ rfl rfl rfl rfl rfl (by kernel_rfl) Try.func13 (by kernel_rfl)
    (of_decide_eq_true (by kernel_rfl)) (by unfold Func.isWrapper; first | (rw [if_pos (by decide +kernel)]; kernel_rfl) | (rw [if_neg (by decide +kernel)]; exact ⟨rfl, rfl⟩))
    (fun os started H enc _ => lifted os started H enc)
end Go.Proofs.Ytaccjneglaomhaa.xdrNames
