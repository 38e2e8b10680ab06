/- Proved: ArgsNames returns true. A closed statement. (Printed by gen_argsnames.py.) -/
import Derived.Test.YteahlnoonmfjhaaAnH
import Derived.Test.YteahlnoonmfjhaaLift
import Derived.Deep.DeepCutAuto
import Derived.Deep.CutBlock
set_option linter.unusedVariables false
set_option linter.unusedSimpArgs false
set_option maxRecDepth 100000
namespace Go.Proofs.Yteahlnoonmfjhaa.argsNames
open Go.RowKit Go.ChangeShapes Go.WideShapes Go.ChangeAt Go.Deep Go.Proofs.Yteahlnoonmfjhaa
attribute [local go_sem ↓] neq_same05

structure Pack (p1 p2 p3 p4 p5 p6 p7 p8 p9 p10 p11 p12 p13 p14 : Prop) : Prop where
  a1 : p1
  a2 : p2
  a3 : p3
  a4 : p4
  a5 : p5
  a6 : p6
  a7 : p7
  a8 : p8
  a9 : p9
  a10 : p10
  a11 : p11
  a12 : p12
  a13 : p13
  a14 : p14
structure Pk (Q : Prop) where
  p1 : Prop
  p2 : Prop
  p3 : Prop
  p4 : Prop
  p5 : Prop
  p6 : Prop
  p7 : Prop
  p8 : Prop
  p9 : Prop
  p10 : Prop
  p11 : Prop
  p12 : Prop
  p13 : Prop
  p14 : Prop
  h : Pack p1 p2 p3 p4 p5 p6 p7 p8 p9 p10 p11 p12 p13 p14 → Q

set_option maxHeartbeats 16000000 in
def pk : Pk (∀ W : World, Calls Try.prog 6 #[] W fun e w' => e = .returned (.bool true) ∧ Below W.heap.size W w') := by
  apply Pk.mk
  intro HP W
  have hm : ∀ n : Nat, n ≤ 100000 → ∃ S : ByteArray, Hid (S = str (zr n)) ∧ Hid (∀ w : World, Calls Try.prog 39 #[.int .i64 n] w fun e w' => e = .returned (.string S) ∧ Ext w w') := fun n hn => ⟨_, Lib.hid rfl, Lib.hid fun w => many05_any n (zr n) rfl hn w⟩
  obtain ⟨S1, HS1, KM1⟩ : ∃ S : ByteArray, Hid (S = str (zr 255)) ∧ Hid (∀ w : World, Calls Try.prog 39 #[.int .i64 255] w fun e w' => e = .returned (.string S) ∧ Ext w w') := hm 255 (by decide)
  obtain ⟨S2, HS2, KM2⟩ : ∃ S : ByteArray, Hid (S = str (zr 256)) ∧ Hid (∀ w : World, Calls Try.prog 39 #[.int .i64 256] w fun e w' => e = .returned (.string S) ∧ Ext w w') := hm 256 (by decide)
  obtain ⟨S3, HS3, KM3⟩ : ∃ S : ByteArray, Hid (S = str (zr 2048)) ∧ Hid (∀ w : World, Calls Try.prog 39 #[.int .i64 2048] w fun e w' => e = .returned (.string S) ∧ Ext w w') := hm 2048 (by decide)
  obtain ⟨S4, HS4, KM4⟩ : ∃ S : ByteArray, Hid (S = str (zr 2049)) ∧ Hid (∀ w : World, Calls Try.prog 39 #[.int .i64 2049] w fun e w' => e = .returned (.string S) ∧ Ext w w') := hm 2049 (by decide)
  obtain ⟨S5, HS5, KM5⟩ : ∃ S : ByteArray, Hid (S = str (zr 24)) ∧ Hid (∀ w : World, Calls Try.prog 39 #[.int .i64 24] w fun e w' => e = .returned (.string S) ∧ Ext w w') := hm 24 (by decide)
  obtain ⟨S6, HS6, KM6⟩ : ∃ S : ByteArray, Hid (S = str (zr 56)) ∧ Hid (∀ w : World, Calls Try.prog 39 #[.int .i64 56] w fun e w' => e = .returned (.string S) ∧ Ext w w') := hm 56 (by decide)
  clear hm
  go_enter Try.func6, Try.ntmps6
  go_wp2_with fail
  refine (works05_any W).mono ?_
  rintro e w1 ⟨rfl, k1⟩
  have X := Lib.hid k1
  clear k1
  go_upto_region 3 with fail
  refine cut494q (fun f wx => ∃ g, f 129 = .slice (some ⟨g, 0, none⟩) 21 21 ∧ f 130 = .int .i64 21 ∧ f 131 = .int .i64 0 ∧ Hid (wx.heap[g]? = some (.cells (anTab.flatMap anC).toArray TA (0, 0))) ∧ Hid (Ext W wx)) ?rest1 ?first1
  case first1 =>
    intro J K' Q2 hJ hK
    rename_i z1 z2 z3 z4 z5
    clear z5 z4 z3 z2 z1
    revert W S1 S2 S3 S4 w1 J K' Q2
    obtain ⟨a1, a2, a3, a4, a5, a6, a7, a8, a9, a10, a11, a12, a13, a14⟩ := HP
    exact a1
  rintro f1 wc ⟨g, h1, h2, h3, HG, HX⟩
  rw [h1, h2, h3]
  clear X h1 h2 h3
  go_upto_block 0 with fail
  refine cut494q (fun f wx => Hid (Ext W wx)) ?rest2 ?first2
  case first2 =>
    intro J K' Q2 hJ hK
    rename_i z1 z2 z3
    clear z3 z2 z1
    revert W f1 wc g J K' Q2
    obtain ⟨a1, a2, a3, a4, a5, a6, a7, a8, a9, a10, a11, a12, a13, a14⟩ := HP
    exact a2
  rintro f2 wd X2
  clear HG HX f1
  have X := X2
  clear X2
  obtain ⟨B1, B2, TN, TT, TO, TE, W0, W1, I1, I2, I3, I4, I5, T1, T2, T3, T4, T5, T6, P2, P3, P4a, P4b, P4c, P5a, P5b, P5c, P5d, P6a, P6b, SX⟩ : ∃ B1 B2 TN TT TO TE W0 W1 I1 I2 I3 I4 I5 T1 T2 T3 T4 T5 T6 P2 P3 P4a P4b P4c P5a P5b P5c P5d P6a P6b : ByteArray, Hid (Six B1 B2 TN TT TO TE W0 W1 I1 I2 I3 I4 I5 T1 T2 T3 T4 T5 T6 P2 P3 P4a P4b P4c P5a P5b P5c P5d P6a P6b) := ⟨_, _, _, _, _, _, _, _, _, _, _, _, _, _, _, _, _, _, _, _, _, _, _, _, _, _, _, _, _, _, Lib.hid six⟩
  go_upto_region 12 with (first | (go_at_call 38; refine (h05_any _ _).mono ?_; rintro e wa ⟨rfl, ka⟩; replace X := Lib.hid (Ext.trans X.out ka); clear ka) | (go_at_call 26; with_reducible refine (SX.out.k1 _).mono ?_; rintro e wa ⟨rfl, ka⟩; replace X := Lib.hid (Ext.trans X.out ka); clear ka))
  go_upto_region 13 with (first | (go_at_call 38; refine (h05_any _ _).mono ?_; rintro e wa ⟨rfl, ka⟩; replace X := Lib.hid (Ext.trans X.out ka); clear ka) | (go_at_call 26; with_reducible refine (SX.out.k2 _).mono ?_; rintro e wa ⟨rfl, ka⟩; replace X := Lib.hid (Ext.trans X.out ka); clear ka))
  go_upto_region 14 with (first | (go_at_call 38; refine (h05_any _ _).mono ?_; rintro e wa ⟨rfl, ka⟩; replace X := Lib.hid (Ext.trans X.out ka); clear ka) | (go_at_call 26; with_reducible refine (SX.out.k3 _).mono ?_; rintro e wa ⟨rfl, ka⟩; replace X := Lib.hid (Ext.trans X.out ka); clear ka))
  go_upto_region 15 with (first | (go_at_call 38; refine (h05_any _ _).mono ?_; rintro e wa ⟨rfl, ka⟩; replace X := Lib.hid (Ext.trans X.out ka); clear ka) | (go_at_call 32; with_reducible refine (SX.out.k4 _).mono ?_; rintro e wa ⟨rfl, ka⟩; replace X := Lib.hid (Ext.trans X.out ka); clear ka))
  go_upto_region 16 with (first | (go_at_call 38; refine (h05_any _ _).mono ?_; rintro e wa ⟨rfl, ka⟩; replace X := Lib.hid (Ext.trans X.out ka); clear ka) | (go_at_call 32; with_reducible refine (SX.out.k5 _).mono ?_; rintro e wa ⟨rfl, ka⟩; replace X := Lib.hid (Ext.trans X.out ka); clear ka))
  go_upto_region 17 with (first | (go_at_call 38; refine (h05_any _ _).mono ?_; rintro e wa ⟨rfl, ka⟩; replace X := Lib.hid (Ext.trans X.out ka); clear ka) | (go_at_call 26; with_reducible refine (SX.out.k6 _).mono ?_; rintro e wa ⟨rfl, ka⟩; replace X := Lib.hid (Ext.trans X.out ka); clear ka))
  (try simp only [List.append_eq, List.cons_append, List.nil_append])
  refine cut494q (fun f wx => f 280 = .bool false ∧ Hid (Ext W wx)) ?rest3 ?first3
  case first3 =>
    intro J K' Q2 hJ hK
    rename_i z1 z2 z3 z4 z5 z6 z7 z8 z9 z10 z11 z12 z13 z14 z15 z16
    clear z16 z15 z14 z13 z1
    revert W f2 wd B1 B2 TN TT TO TE W0 W1 I1 I2 I3 I4 I5 T1 T2 T3 T4 T5 T6 P2 P3 P4a P4b P4c P5a P5b P5c P5d P6a P6b z2 z3 z4 z5 z6 z7 z8 z9 z10 z11 z12 wa J K' Q2
    obtain ⟨a1, a2, a3, a4, a5, a6, a7, a8, a9, a10, a11, a12, a13, a14⟩ := HP
    exact a3
  rintro f3 wc ⟨h1, X3⟩
  rw [h1]
  clear h1 SX X
  have X := X3
  clear X3
  obtain ⟨EE, HEE, hmk⟩ := mk65E
  go_upto_region 20 with fail
  clear hmk
  have kx := extAl wc (.cells EE.toArray 66)
  have HGE := Lib.hid (heap_alloc_last wc (.cells EE.toArray 66))
  replace X := Lib.hid (Ext.trans X.out kx)
  clear kx
  generalize wc.alloc (.cells EE.toArray 66) = V0 at *
  generalize wc.heap.size = ge at *
  have kx := extAl V0 (.cells #[.int .u8 2, .int .i64 (-1), .int .i64 0, .int .i64 0, .int .i64 0, .int .i64 0, .int .i64 0, .int .i64 1099511627776] 38)
  have HAT := heap_alloc_last V0 (.cells #[.int .u8 2, .int .i64 (-1), .int .i64 0, .int .i64 0, .int .i64 0, .int .i64 0, .int .i64 0, .int .i64 1099511627776] 38)
  have HGE1 := Lib.hid (Ext.blk kx HGE.out)
  replace X := Lib.hid (Ext.trans X.out kx)
  clear kx HGE
  go_upto_region 21 with fail
  generalize V0.alloc (.cells #[.int .u8 2, .int .i64 (-1), .int .i64 0, .int .i64 0, .int .i64 0, .int .i64 0, .int .i64 0, .int .i64 1099511627776] 38) = V1 at *
  generalize V0.heap.size = ga at *
  have HAT1 := Lib.hid HAT
  clear HAT
  (try simp only [List.append_eq, List.cons_append, List.nil_append])
  refine cut494q (fun f wx => ∃ g g1, f 349 = .slice (some ⟨g, 0, none⟩) 24 24 ∧ f 350 = .int .i64 24 ∧ f 351 = .int .i64 0 ∧ Hid (wx.heap[g]? = some (.cells ((rnRows ge g1).flatMap rnC).toArray TR (0, 0))) ∧ Hid (∀ x ∈ rnRows ge g1, EnR wx x.2 x.1.2.1.ents ∧ ∃ A n c, x.2 = .slice A n c) ∧ Hid (Ext W wx)) ?rest4 ?first4
  case first4 =>
    intro J K' Q2 hJ hK
    rename_i z1 z2 z3 z4 z5 z6 z7 z8 z9 z10 z11 z12 z13 z14 z15 z16 z17 z18
    clear z18 z17 z16 z15 z1
    revert W S2 S3 S4 f3 EE V0 ge V1 ga J K' Q2
    obtain ⟨a1, a2, a3, a4, a5, a6, a7, a8, a9, a10, a11, a12, a13, a14⟩ := HP
    exact a4
  rintro f4 wc ⟨g, g1, h1, h2, h3, HG, HEN, HX⟩
  rw [h1, h2, h3]
  clear h1 h2 h3 X HGE1 HAT1 HEE f3
  go_upto_block 2 with fail
  refine cut494q (fun f wx => Hid (Ext W wx)) ?rest5 ?first5
  case first5 =>
    intro J K' Q2 hJ hK
    rename_i z1 z2 z3 z4 z5 z6 z7 z8 z9 z10 z11 z12 z13 z14 z15 z16 z17 z18
    clear z18 z17 z1
    revert W ge f4 wc g g1 J K' Q2
    obtain ⟨a1, a2, a3, a4, a5, a6, a7, a8, a9, a10, a11, a12, a13, a14⟩ := HP
    exact a5
  rintro f5 wc X5
  clear HG HX HEN f4
  have X := X5
  clear X5
  obtain ⟨T, U, Y0, Y, Z0, Z1, ZA, Z, V1, V2, V3, c1, c2, c3, BX0⟩ := bad HS5.out HS6.out
  have BX := Lib.hid BX0
  clear BX0
  go_upto_region 29 with fail
  (try simp only [List.append_eq, List.cons_append, List.nil_append])
  refine cut494q (fun f wx => f 28 = .int .i64 4 ∧ Hid (Ext W wx)) ?rest6 ?first6
  case first6 =>
    intro J K' Q2 hJ hK
    rename_i z1 z2 z3 z4 z5 z6 z7 z8 z9 z10 z11 z12 z13 z14 z15 z16 z17 z18 z19 z20
    clear z20 z19 z1
    revert W S5 S6 f5 wc T U Y0 Y Z0 Z1 ZA Z V1 V2 V3 c1 c2 c3 J K' Q2
    obtain ⟨a1, a2, a3, a4, a5, a6, a7, a8, a9, a10, a11, a12, a13, a14⟩ := HP
    exact a6
  rintro f6 wc ⟨h0, X5⟩
  rw [h0]
  clear h0 X f5
  have X := X5
  clear X5
  go_upto_region 30 with fail
  (try simp only [List.append_eq, List.cons_append, List.nil_append])
  refine cut494q (fun f wx => f 28 = .int .i64 4 ∧ f 30 = .int .i64 4 ∧ Hid (Ext W wx)) ?rest7 ?first7
  case first7 =>
    intro J K' Q2 hJ hK
    rename_i z1 z2 z3 z4 z5 z6 z7 z8 z9 z10 z11 z12 z13 z14 z15 z16 z17 z18 z19 z20 z21
    clear z21 z20 z1
    revert W S5 S6 T U Y0 Y Z0 Z1 ZA Z V1 V2 V3 c1 c2 c3 f6 wc J K' Q2
    obtain ⟨a1, a2, a3, a4, a5, a6, a7, a8, a9, a10, a11, a12, a13, a14⟩ := HP
    exact a7
  rintro f7 wc ⟨h0, h1, X5⟩
  rw [h0, h1]
  clear h0 h1 X f6
  have X := X5
  clear X5
  go_upto_region 31 with fail
  (try simp only [List.append_eq, List.cons_append, List.nil_append])
  refine cut494q (fun f wx => f 28 = .int .i64 4 ∧ f 30 = .int .i64 4 ∧ f 32 = .int .i64 62 ∧ Hid (Ext W wx)) ?rest8 ?first8
  case first8 =>
    intro J K' Q2 hJ hK
    rename_i z1 z2 z3 z4 z5 z6 z7 z8 z9 z10 z11 z12 z13 z14 z15 z16 z17 z18 z19 z20 z21 z22
    clear z22 z21 z1
    revert W S5 S6 T U Y0 Y Z0 Z1 ZA Z V1 V2 V3 c1 c2 c3 f7 wc J K' Q2
    obtain ⟨a1, a2, a3, a4, a5, a6, a7, a8, a9, a10, a11, a12, a13, a14⟩ := HP
    exact a8
  rintro f8 wc ⟨h0, h1, h2, X5⟩
  rw [h0, h1, h2]
  clear h0 h1 h2 X f7
  have X := X5
  clear X5
  go_upto_region 32 with fail
  (try simp only [List.append_eq, List.cons_append, List.nil_append])
  refine cut494q (fun f wx => f 28 = .int .i64 4 ∧ f 30 = .int .i64 4 ∧ f 32 = .int .i64 62 ∧ f 34 = .int .i64 62 ∧ Hid (Ext W wx)) ?rest9 ?first9
  case first9 =>
    intro J K' Q2 hJ hK
    rename_i z1 z2 z3 z4 z5 z6 z7 z8 z9 z10 z11 z12 z13 z14 z15 z16 z17 z18 z19 z20 z21 z22 z23
    clear z23 z22 z1
    revert W S5 S6 T U Y0 Y Z0 Z1 ZA Z V1 V2 V3 c1 c2 c3 f8 wc J K' Q2
    obtain ⟨a1, a2, a3, a4, a5, a6, a7, a8, a9, a10, a11, a12, a13, a14⟩ := HP
    exact a9
  rintro f9 wc ⟨h0, h1, h2, h3, X5⟩
  rw [h0, h1, h2, h3]
  clear h0 h1 h2 h3 X f8
  have X := X5
  clear X5
  go_upto_region 33 with fail
  (try simp only [List.append_eq, List.cons_append, List.nil_append])
  refine cut494q (fun f wx => f 28 = .int .i64 4 ∧ f 30 = .int .i64 4 ∧ f 32 = .int .i64 62 ∧ f 34 = .int .i64 62 ∧ f 36 = .int .i64 4 ∧ Hid (Ext W wx)) ?rest10 ?first10
  case first10 =>
    intro J K' Q2 hJ hK
    rename_i z1 z2 z3 z4 z5 z6 z7 z8 z9 z10 z11 z12 z13 z14 z15 z16 z17 z18 z19 z20 z21 z22 z23 z24
    clear z24 z23 z1
    revert W S5 S6 T U Y0 Y Z0 Z1 ZA Z V1 V2 V3 c1 c2 c3 f9 wc J K' Q2
    obtain ⟨a1, a2, a3, a4, a5, a6, a7, a8, a9, a10, a11, a12, a13, a14⟩ := HP
    exact a10
  rintro f10 wc ⟨h0, h1, h2, h3, h4, X5⟩
  rw [h0, h1, h2, h3, h4]
  clear h0 h1 h2 h3 h4 X f9
  have X := X5
  clear X5
  go_upto_region 34 with fail
  (try simp only [List.append_eq, List.cons_append, List.nil_append])
  refine cut494q (fun f wx => f 28 = .int .i64 4 ∧ f 30 = .int .i64 4 ∧ f 32 = .int .i64 62 ∧ f 34 = .int .i64 62 ∧ f 36 = .int .i64 4 ∧ f 38 = .int .i64 4 ∧ Hid (Ext W wx)) ?rest11 ?first11
  case first11 =>
    intro J K' Q2 hJ hK
    rename_i z1 z2 z3 z4 z5 z6 z7 z8 z9 z10 z11 z12 z13 z14 z15 z16 z17 z18 z19 z20 z21 z22 z23 z24 z25
    clear z25 z24 z1
    revert W S5 S6 T U Y0 Y Z0 Z1 ZA Z V1 V2 V3 c1 c2 c3 f10 wc J K' Q2
    obtain ⟨a1, a2, a3, a4, a5, a6, a7, a8, a9, a10, a11, a12, a13, a14⟩ := HP
    exact a11
  rintro f11 wc ⟨h0, h1, h2, h3, h4, h5, X5⟩
  rw [h0, h1, h2, h3, h4, h5]
  clear h0 h1 h2 h3 h4 h5 X f10
  have X := X5
  clear X5
  go_upto_region 35 with fail
  (try simp only [List.append_eq, List.cons_append, List.nil_append])
  refine cut494q (fun f wx => f 28 = .int .i64 4 ∧ f 30 = .int .i64 4 ∧ f 32 = .int .i64 62 ∧ f 34 = .int .i64 62 ∧ f 36 = .int .i64 4 ∧ f 38 = .int .i64 4 ∧ f 40 = .int .i64 4 ∧ Hid (Ext W wx)) ?rest12 ?first12
  case first12 =>
    intro J K' Q2 hJ hK
    rename_i z1 z2 z3 z4 z5 z6 z7 z8 z9 z10 z11 z12 z13 z14 z15 z16 z17 z18 z19 z20 z21 z22 z23 z24 z25 z26
    clear z26 z25 z1
    revert W S5 S6 T U Y0 Y Z0 Z1 ZA Z V1 V2 V3 c1 c2 c3 f11 wc J K' Q2
    obtain ⟨a1, a2, a3, a4, a5, a6, a7, a8, a9, a10, a11, a12, a13, a14⟩ := HP
    exact a12
  rintro f12 wc ⟨h0, h1, h2, h3, h4, h5, h6, X5⟩
  rw [h0, h1, h2, h3, h4, h5, h6]
  clear h0 h1 h2 h3 h4 h5 h6 X f11
  have X := X5
  clear X5
  go_upto_region 36 with fail
  (try simp only [List.append_eq, List.cons_append, List.nil_append])
  refine cut494q (fun f wx => f 28 = .int .i64 4 ∧ f 30 = .int .i64 4 ∧ f 32 = .int .i64 62 ∧ f 34 = .int .i64 62 ∧ f 36 = .int .i64 4 ∧ f 38 = .int .i64 4 ∧ f 40 = .int .i64 4 ∧ f 41 = .string Z ∧ Hid (Ext W wx)) ?rest13 ?first13
  case first13 =>
    intro J K' Q2 hJ hK
    rename_i z1 z2 z3 z4 z5 z6 z7 z8 z9 z10 z11 z12 z13 z14 z15 z16 z17 z18 z19 z20 z21 z22 z23 z24 z25 z26 z27
    clear z27 z26 z1
    revert W S5 S6 T U Y0 Y Z0 Z1 ZA Z V1 V2 V3 c1 c2 c3 f12 wc J K' Q2
    obtain ⟨a1, a2, a3, a4, a5, a6, a7, a8, a9, a10, a11, a12, a13, a14⟩ := HP
    exact a13
  rintro f13 wc ⟨h0, h1, h2, h3, h4, h5, h6, h7, X5⟩
  rw [h0, h1, h2, h3, h4, h5, h6, h7]
  clear h0 h1 h2 h3 h4 h5 h6 h7 X f12
  have X := X5
  clear X5
  go_upto_region 37 with fail
  (try simp only [List.append_eq, List.cons_append, List.nil_append])
  refine cut494q (fun f wx => f 28 = .int .i64 4 ∧ f 30 = .int .i64 4 ∧ f 32 = .int .i64 62 ∧ f 34 = .int .i64 62 ∧ f 36 = .int .i64 4 ∧ f 38 = .int .i64 4 ∧ f 40 = .int .i64 4 ∧ f 41 = .string Z ∧ f 43 = .int .i64 4 ∧ Hid (Ext W wx)) ?rest14 ?first14
  case first14 =>
    intro J K' Q2 hJ hK
    rename_i z1 z2 z3 z4 z5 z6 z7 z8 z9 z10 z11 z12 z13 z14 z15 z16 z17 z18 z19 z20 z21 z22 z23 z24 z25 z26 z27 z28
    clear z28 z27 z1
    revert W S5 S6 T U Y0 Y Z0 Z1 ZA Z V1 V2 V3 c1 c2 c3 f13 wc J K' Q2
    obtain ⟨a1, a2, a3, a4, a5, a6, a7, a8, a9, a10, a11, a12, a13, a14⟩ := HP
    exact a14
  rintro f14 wc ⟨h0, h1, h2, h3, h4, h5, h6, h7, h8, X5⟩
  rw [h0, h1, h2, h3, h4, h5, h6, h7, h8]
  clear h0 h1 h2 h3 h4 h5 h6 h7 h8 X f13
  have X := X5
  clear X5
  go_upto_block 4 with fail
  focus
    go_wp2_with fail
    go_loopw [44] (fun i wr => ∃ p : Int, -2 ≤ p ∧ p ≤ 25 ∧ i = .int .i64 p ∧ Hid (Ext W wr)) (fun i _ => (25 - intOf i).toNat)
    case atStart => exact ⟨-2, by omega, by omega, rfl, X⟩
    case round =>
      clear X
      obtain ⟨p, hp1, hp2, rfl, X⟩ := hrel
      by_cases hpl : p < 25
      · rcases chg_cases p with ⟨rfl, hc⟩ | ⟨h2, h7, h13, hc⟩ | ⟨rfl, hc⟩ | ⟨rfl, hc⟩ | ⟨h2, h7, h13, h17, h18, hc⟩ | ⟨h2, h7, h17, h18, hc⟩
        all_goals
          (try have b2 : (p == 2) = false := beq_eq_false_iff_ne.2 h2)
          (try have b17 : (p == 17) = false := beq_eq_false_iff_ne.2 h17)
          (try have b18 : (p == 18) = false := beq_eq_false_iff_ne.2 h18)
          have KC := Lib.hid (chg_k _ _ hc)
          clear hc
          go_wp2_with (go_at_call 30; with_reducible refine (KC.out _).mono ?_; rintro e wa ⟨rfl, ka⟩; replace X := Lib.hid (Ext.trans X.out ka); clear ka)
          go_roundw
          case rel => exact ⟨_, by omega, by omega, rfl, X⟩
          case measure => first | (simp [intOf]; done) | (simp [intOf]; omega)
      · obtain rfl : p = 25 := by omega
        go_wp2_with fail
        go_ret
        exact ⟨rfl, X.out⟩

set_option maxHeartbeats 16000000 in
theorem part1 : pk.p1 := by
  intro W S1 HS1 KM1 S2 HS2 KM2 S3 HS3 KM3 S4 HS4 KM4 w1 X J K' Q2 hJ hK
  (try simp only [List.append_eq, List.cons_append, List.nil_append])
  go_wp2_with (first
    | (go_at_call 38; refine (h05_any _ _).mono ?_; rintro e wa ⟨rfl, ka⟩; replace X := Lib.hid (Ext.trans X.out ka); clear ka)
    | (go_at_call 39; with_reducible refine (KM1.out _).mono ?_; rintro e wa ⟨rfl, ka⟩; replace X := Lib.hid (Ext.trans X.out ka); clear ka)
    | (go_at_call 39; with_reducible refine (KM2.out _).mono ?_; rintro e wa ⟨rfl, ka⟩; replace X := Lib.hid (Ext.trans X.out ka); clear ka)
    | (go_at_call 39; with_reducible refine (KM3.out _).mono ?_; rintro e wa ⟨rfl, ka⟩; replace X := Lib.hid (Ext.trans X.out ka); clear ka)
    | (go_at_call 39; with_reducible refine (KM4.out _).mono ?_; rintro e wa ⟨rfl, ka⟩; replace X := Lib.hid (Ext.trans X.out ka); clear ka)
    | (refine wpList_anTab _ rfl rfl HS1.out HS2.out HS3.out HS4.out (by rw [List.map_toArray]; kernel_rfl) ?_; simp only [Act.put]))
  generalize hCS : anTab.flatMap anC = CS at *
  go_wp2_with fail
  exact hJ _ _ (by kernel_rfl) (by kernel_rfl) ⟨_, rfl, rfl, rfl, Lib.hid (heap_alloc_last _ _), Lib.hid (Ext.trans X.out (extAl _ _))⟩

set_option maxHeartbeats 16000000 in
theorem part2 : pk.p2 := by
  intro W f1 wc g HG HX J K' Q2 hJ hK
  go_wp2_with fail
  go_loopw [131] (fun i wr => ∃ j : Nat, j ≤ 21 ∧ i = .int .i64 j ∧ Hid (wr.heap[g]? = some (.cells (anTab.flatMap anC).toArray TA (0, 0))) ∧ Hid (Ext W wr)) (fun i _ => 21 - (intOf i).toNat)
  case atStart => exact ⟨0, by omega, rfl, HG, HX⟩
  case round =>
    clear HG HX
    obtain ⟨j, hj, rfl, HG, HX⟩ := hrel
    by_cases hjl : j < 21
    · obtain ⟨r, hr⟩ : ∃ r, anTab[j]? = some r := ⟨_, List.getElem?_eq_getElem (by exact hjl)⟩
      have hm := List.mem_of_getElem? hr
      obtain ⟨ok1, ok2, ok3⟩ := an_ok hm
      have hE := an_e r hm
      have LD := Lib.hid (an_ld HG.out hr)
      have STN := Lib.hid (new_an wr r)
      have kx := extAl wr (.cells (anC r).toArray TA)
      have HX2 := Lib.hid (Ext.trans HX.out kx)
      have HG2 := Lib.hid (Ext.blk kx HG.out)
      have HR2 := Lib.hid (heap_alloc_last wr (.cells (anC r).toArray TA))
      obtain ⟨d0, d17, dlt⟩ := an_cells HR2.out
      have glt : g < wr.heap.size := (Array.getElem?_eq_some_iff.1 HG.out).1
      have KW := Lib.hid (fun w : World => aWrite_any r.1 r.2.1 w ok2 ok1)
      have KRR := Lib.hid (fun w : World => aRead_any r.1 (aW r.1 r.2.1).1 w ok2 ok3)
      have F1 := Lib.hid (fun h => aR_aW (p := r.1) ok1 h)
      generalize hQ : aW r.1 r.2.1 = Q at *
      obtain ⟨Q1, Q2⟩ := Q
      simp only at KW KRR F1 hE
      subst hE
      clear hQ kx hm hr ok1 ok2 ok3 HX HG
      generalize Value.agg (anC r).toArray = RV at *
      go_upto_region 6 with (first | (refine wpList_ld rfl TA (.tmp 133) rfl LD.out ?_; simp only [Act.put]) | (refine wpList_st rfl TA (.tmp 2) (.tmp 134) rfl STN.out ?_; simp only [Act.put]))
      generalize wr.alloc (.cells (anC r).toArray TA) = V2 at *
      generalize wr.heap.size = g2 at *
      have LA := Lib.hid (an_args HR2.out)
      clear LD STN glt
      generalize hRV2 : Value.agg (agC r.2.1).toArray = RA at *
      go_wp2_with (refine wpList_ld rfl 35 (.tmp 138) rfl LA.out ?_; simp only [Act.put])
      refine (KW.out _).mono ?_
      rintro e w4 ⟨rfl, k4⟩
      have HX4 := Lib.hid (Ext.trans HX2.out k4)
      have HG4 := Lib.hid (Ext.blk k4 HG2.out)
      have HR4 := Lib.hid (Ext.blk k4 HR2.out)
      clear d0 d17 dlt LA HX2 HG2 k4 KW
      obtain ⟨d0, d17, dlt⟩ := an_cells HR4.out
      go_wp2_with fail
      refine (KRR.out _).mono ?_
      rintro e w5 ⟨rfl, k5⟩
      clear d0 d17 dlt KRR HR2
      generalize aR r.1 Q1 = Z at *
      obtain ⟨Z1, Z2⟩ := Z
      have STN := Lib.hid (new_ag05 w5 Z1)
      have kx := Ext.trans (a := w4) k5 (extAl w5 (.cells (agC Z1).toArray 35))
      have HX6 := Lib.hid (Ext.trans HX4.out kx)
      have HG6 := Lib.hid (Ext.blk kx HG4.out)
      have HR6 := Lib.hid (Ext.blk kx HR4.out)
      have HZ6 := Lib.hid (heap_alloc_last w5 (.cells (agC Z1).toArray 35))
      clear kx k5 HX4 HG4 HR4
      generalize hZV : Value.agg (agC Z1).toArray = ZV at *
      go_upto_region 8 with (refine wpList_st rfl 35 (.tmp 5) (.tmp 148) rfl STN.out ?_; simp only [Act.put])
      generalize w5.alloc (.cells (agC Z1).toArray 35) = V6 at *
      generalize w5.heap.size = g5 at *
      obtain ⟨-, d17, dlt⟩ := an_cells HR6.out
      have LA := Lib.hid (an_args HR6.out)
      have LB := Lib.hid (ldAg HZ6.out)
      clear STN hZV hRV2 HR6 HZ6
      by_cases hE : r.2.2 = 0
      · obtain ⟨hz, -, -⟩ := F1.out hE
        simp only [Prod.mk.injEq] at hz
        obtain ⟨rfl, rfl⟩ := hz
        have q1 : (r.2.2 == 0) = true := by rw [hE]; rfl
        clear F1 hE
        generalize r.2.2 = E at *
        go_wp2_with (first | (refine wpList_ldB 35 (.tmp 5) rfl (by rfl) LB.out ?_; simp only [Act.put]) | (refine wpList_ldB 35 (.tmp 162) rfl (by rfl) LA.out ?_; simp only [Act.put]))
        go_roundw
        case rel => exact ⟨j + 1, by omega, by first | rfl | (simp; done) | go_num, HG6, HX6⟩
        case measure => first | (simp [intOf]; done) | (simp [intOf]; omega)
      · have q1 : (r.2.2 == 0) = false := beq_eq_false_iff_ne.2 hE
        clear F1 hE
        generalize r.2.2 = E at *
        go_wp2_with fail
        go_roundw
        case rel => exact ⟨j + 1, by omega, by first | rfl | (simp; done) | go_num, HG6, HX6⟩
        case measure => first | (simp [intOf]; done) | (simp [intOf]; omega)
    · obtain rfl : j = 21 := by omega
      go_wp2_with fail
      exact hJ _ _ (by kernel_rfl) (by kernel_rfl) HX

set_option maxHeartbeats 16000000 in
theorem part3 : pk.p3 := by
  intro W f2 wd B1 B2 TN TT TO TE W0 W1 I1 I2 I3 I4 I5 T1 T2 T3 T4 T5 T6 P2 P3 P4a P4b P4c P5a P5b P5c P5d P6a P6b SX z2 z3 z4 z5 z6 z7 z8 z9 z10 z11 z12 wa X J K' Q2 hJ hK
  have e1 := SX.out.e1
  have e2a := SX.out.e2a
  have e2 := SX.out.e2
  have e3a := SX.out.e3a
  have e3 := SX.out.e3
  have e4a := SX.out.e4a
  have e4b := SX.out.e4b
  have e4c := SX.out.e4c
  have e4 := SX.out.e4
  have e5a := SX.out.e5a
  have e5b := SX.out.e5b
  have e5c := SX.out.e5c
  have e5d := SX.out.e5d
  have e5 := SX.out.e5
  have e6a := SX.out.e6a
  have e6b := SX.out.e6b
  have e6 := SX.out.e6
  have sB1 := SX.out.sB1
  have sB2 := SX.out.sB2
  have sTN := SX.out.sTN
  have sTT := SX.out.sTT
  have sTO := SX.out.sTO
  have sTE := SX.out.sTE
  have sW0 := SX.out.sW0
  have sW1 := SX.out.sW1
  have sI1 := SX.out.sI1
  have sI2 := SX.out.sI2
  have sI3 := SX.out.sI3
  have sI4 := SX.out.sI4
  have sI5 := SX.out.sI5
  have sP2 := SX.out.sP2
  have sP3 := SX.out.sP3
  have sP4a := SX.out.sP4a
  have sP4b := SX.out.sP4b
  have sP4c := SX.out.sP4c
  have sP5a := SX.out.sP5a
  have sP5b := SX.out.sP5b
  have sP5c := SX.out.sP5c
  have sP5d := SX.out.sP5d
  have sP6a := SX.out.sP6a
  have sP6b := SX.out.sP6b
  (try simp only [List.append_eq, List.cons_append, List.nil_append])
  go_wp2_with (first
    | (go_at_call 38; refine (h05_any _ _).mono ?_; rintro e wa ⟨rfl, ka⟩; replace X := Lib.hid (Ext.trans X.out ka); clear ka)
    | (go_at_call 40; with_reducible refine (SX.out.kB1 _).mono ?_; rintro e wa ⟨rfl, ka⟩; replace X := Lib.hid (Ext.trans X.out ka); clear ka)
    | (go_at_call 40; with_reducible refine (SX.out.kB2 _).mono ?_; rintro e wa ⟨rfl, ka⟩; replace X := Lib.hid (Ext.trans X.out ka); clear ka)
    | (go_at_call 42; with_reducible refine (SX.out.kTN _).mono ?_; rintro e wa ⟨rfl, ka⟩; replace X := Lib.hid (Ext.trans X.out ka); clear ka)
    | (go_at_call 42; with_reducible refine (SX.out.kTT _).mono ?_; rintro e wa ⟨rfl, ka⟩; replace X := Lib.hid (Ext.trans X.out ka); clear ka)
    | (go_at_call 42; with_reducible refine (SX.out.kTO _).mono ?_; rintro e wa ⟨rfl, ka⟩; replace X := Lib.hid (Ext.trans X.out ka); clear ka)
    | (go_at_call 42; with_reducible refine (SX.out.kTE _).mono ?_; rintro e wa ⟨rfl, ka⟩; replace X := Lib.hid (Ext.trans X.out ka); clear ka)
    | (go_at_call 43; with_reducible refine (SX.out.kW0 _).mono ?_; rintro e wa ⟨rfl, ka⟩; replace X := Lib.hid (Ext.trans X.out ka); clear ka)
    | (go_at_call 43; with_reducible refine (SX.out.kW1 _).mono ?_; rintro e wa ⟨rfl, ka⟩; replace X := Lib.hid (Ext.trans X.out ka); clear ka)
    | (go_at_call 41; with_reducible refine (SX.out.kI1 _).mono ?_; rintro e wa ⟨rfl, ka⟩; replace X := Lib.hid (Ext.trans X.out ka); clear ka)
    | (go_at_call 41; with_reducible refine (SX.out.kI2 _).mono ?_; rintro e wa ⟨rfl, ka⟩; replace X := Lib.hid (Ext.trans X.out ka); clear ka)
    | (go_at_call 41; with_reducible refine (SX.out.kI3 _).mono ?_; rintro e wa ⟨rfl, ka⟩; replace X := Lib.hid (Ext.trans X.out ka); clear ka)
    | (go_at_call 41; with_reducible refine (SX.out.kI4 _).mono ?_; rintro e wa ⟨rfl, ka⟩; replace X := Lib.hid (Ext.trans X.out ka); clear ka)
    | (go_at_call 41; with_reducible refine (SX.out.kI5 _).mono ?_; rintro e wa ⟨rfl, ka⟩; replace X := Lib.hid (Ext.trans X.out ka); clear ka))
  exact hJ _ _ (by kernel_rfl) (by kernel_rfl) ⟨by first | rfl | simp, X⟩

set_option maxHeartbeats 16000000 in
theorem part4 : pk.p4 := by
  intro W S2 HS2 KM2 S3 HS3 KM3 S4 HS4 KM4 f3 EE HEE V0 ge V1 HGE1 X ga HAT1 J K' Q2 hJ hK
  (try simp only [List.append_eq, List.cons_append, List.nil_append])
  have hlt := (Array.getElem?_eq_some_iff.1 HAT1.out).1
  have hat := fun i v (h : (#[.int .u8 2, .int .i64 (-1), .int .i64 0, .int .i64 0, .int .i64 0, .int .i64 0, .int .i64 0, .int .i64 1099511627776] : Array Value)[i]? = some v) => (cell_of_row V1 ga i _ _ _ HAT1.out).trans h
  have LAT : Hid (∀ w', Ext V1 w' → (Instr.loadAt 38 (.pointer (some ⟨ga, 0, none⟩))).run Try.prog w' = .ok (.agg #[.int .u8 2, .int .i64 (-1), .int .i64 0, .int .i64 0, .int .i64 0, .int .i64 0, .int .i64 0, .int .i64 1099511627776]) w') := Lib.hid fun w' hx => by
    have := Ext.blk hx HAT1.out
    simp only [Instr.loadAt, Instr.sureAddr, Sem.run_bind, Sem.run_pure, Result.andThen]
    exact run_loadVar_row _ _ _ _ _ _ _ this Try.underlying38 rfl (by kernel_rfl)
  clear hat
  refine wp_region_pieces 69  [(true, [0, 1, 2, 3, 4, 5, 6, 7, 8, 9, 10, 11, 12, 13, 14, 15, 16, 17, 18, 19, 20, 21, 22, 23, 24, 25, 26, 27, 28, 29, 30, 31, 32, 33, 34, 35, 36, 37, 38, 39, 40, 41, 42, 43, 44, 48, 49, 50, 51, 52, 53, 54, 55, 56, 57, 58, 59, 60, 61, 62, 63, 64, 65, 68]), (false, [45]), (true, [46, 47]), (false, [66]), (true, [67])] (by kernel_rfl) (by kernel_rfl) ?_; simp only [pick, List.map_cons, List.map_nil, List.flatMap_cons, List.flatMap_nil, Option.toList_some, List.singleton_append, List.drop_succ_cons, List.drop_zero, List.getElem?_cons_zero, List.getElem?_cons_succ]
  refine ⟨by kernel_rfl, ?_⟩; apply Exists.intro; refine ⟨fun ψ hψ hne => (by (repeat (first | ( first | (go_big_quiet_want; refine quiet_ld 38 (.tmp 20) rfl (fun w' hw' => LAT.out w' (ext_in hw')) ?_; go_simp; go_big_quiet_on) | (go_big_quiet_want; refine quiet_bld _ _ rfl (fun w => (by go_simp; rfl)) ?_; go_simp; go_big_quiet_on) ) | go_big_quiet_step ((  (first | (go_at_call 38; exact extP_of hψ (Nat.le_refl _) (h05_any _ _)) | (go_at_call 39; with_reducible exact extP_of hψ (Nat.le_refl _) (KM2.out _)) | (go_at_call 39; with_reducible exact extP_of hψ (Nat.le_refl _) (KM3.out _)) | (go_at_call 39; with_reducible exact extP_of hψ (Nat.le_refl _) (KM4.out _))) )))); exact wpQuiet_nil rfl), ?_⟩
  intro u1 a1 K hK
  go_wp2_with fail
  refine hK _ _ (extAl u1 _) ?_
  clear hK K
  have HE1 := Lib.hid (heap_alloc_last u1 (.cells #[.string S2, .int .i64 0, .int .i64 0] 66))
  have ax := Lib.hid (Ext.trans a1 (extAl u1 (.cells #[.string S2, .int .i64 0, .int .i64 0] 66)))
  clear a1
  generalize u1.alloc (.cells #[.string S2, .int .i64 0, .int .i64 0] 66) = U2 at *
  generalize u1.heap.size = g1 at *
  refine ⟨by kernel_rfl, ?_⟩; apply Exists.intro; refine ⟨fun ψ hψ hne => (by (repeat (first | ( (go_big_quiet_want; refine quiet_bld _ _ rfl (fun w => (by go_simp; rfl)) ?_; go_simp; go_big_quiet_on) ) | go_big_quiet_step ((  fail )))); exact wpQuiet_nil rfl), ?_⟩
  intro u3 a3 K hK
  go_wp2_with (refine wpList_rnTab (ge := ge) (g1 := g1) _ rfl rfl HS3.out HS4.out (by rw [List.map_toArray]; kernel_rfl) ?_; simp only [Act.put]; go_simp)
  refine hK _ _ (extAl u3 _) ?_
  clear hK K
  have HG := Lib.hid (heap_alloc_last u3 (.cells ((rnRows ge g1).flatMap rnC).toArray TR))
  have ay := Lib.hid (Ext.trans (a := U2) a3 (extAl u3 (.cells ((rnRows ge g1).flatMap rnC).toArray TR)))
  clear a3
  generalize hRC : (rnRows ge g1).flatMap rnC = RC at *
  generalize u3.alloc (.cells RC.toArray TR) = U4 at *
  generalize u3.heap.size = g at *
  refine ⟨by kernel_rfl, ?_⟩; apply Exists.intro; refine ⟨fun ψ hψ hne => (by (repeat (go_big_quiet_step (( fail )))); exact wpQuiet_nil rfl), ?_⟩
  intro u5 a5
  go_wp2_with fail
  subst hRC
  have k5 : Ext U2 u5 := Ext.trans ay.out a5
  have r13 : u5.heap[ge]? = some (.cells ((List.replicate 65 en0).flatMap enC).toArray 66 (0, 0)) := by rw [HEE.out]; exact Ext.blk k5 (Ext.blk ax.out HGE1.out)
  have r15 : u5.heap[g1]? = some (.cells (([⟨zr 256, 0, 0⟩] : List EnT).flatMap enC).toArray 66 (0, 0)) := by
    have := Ext.blk k5 HE1.out
    rw [HS2.out] at this
    exact this
  have h13 := en_row (n := 64) (c := 65) r13 (by rw [List.length_replicate]; decide) (by decide)
  have h14 := en_row (n := 65) (c := 65) r13 (by rw [List.length_replicate]; decide) (by decide)
  have h15 := en_row (n := 1) (c := 1) r15 (by decide) (by decide)
  rw [List.take_replicate] at h13 h14
  exact hJ _ _ (by kernel_rfl) (by kernel_rfl) ⟨g, g1, rfl, rfl, rfl, Lib.hid (Ext.blk a5 HG.out), Lib.hid (rn_ents h13 h14 h15), Lib.hid (Ext.trans X.out (Ext.trans ax.out k5))⟩

set_option maxHeartbeats 16000000 in
theorem part5 : pk.p5 := by
  intro W ge f4 wc g g1 HG HEN HX J K' Q2 hJ hK
  go_wp2_with fail
  obtain ⟨w0, hw0⟩ : ∃ w0 : World, w0 = wc := ⟨_, rfl⟩
  have H0 : Hid (Ext w0 wc) := by rw [hw0]; exact Lib.hid (Ext.refl _)
  rw [← hw0] at HEN
  clear hw0
  go_loopw [351] (fun i wr => ∃ j : Nat, j ≤ 24 ∧ i = .int .i64 j ∧ Hid (wr.heap[g]? = some (.cells ((rnRows ge g1).flatMap rnC).toArray TR (0, 0))) ∧ Hid (Ext w0 wr) ∧ Hid (Ext W wr)) (fun i _ => 24 - (intOf i).toNat)
  case atStart => exact ⟨0, by omega, rfl, HG, H0, HX⟩
  case round =>
    clear HG HX H0
    obtain ⟨j, hj, rfl, HG, H0, HX⟩ := hrel
    by_cases hjl : j < 24
    · obtain ⟨r, hr⟩ : ∃ r, (rnRows ge g1)[j]? = some r := ⟨_, List.getElem?_eq_getElem (by exact hjl)⟩
      have hm := List.mem_of_getElem? hr
      have ht := rnRows_tab hm
      obtain ⟨ok1, ok2, ok3, ok4⟩ := rn_ok ht
      have hE := rn_e r.1 ht
      have hBk := rn_backB r.1 ht
      obtain ⟨hen, A, n, c, hrv⟩ := HEN.out r hm
      have LD := Lib.hid (rn_ld HG.out hr)
      have STN := Lib.hid (new_rn wr r A n c hrv)
      have kx := extAl wr (.cells (rnC r).toArray TR)
      have HX2 := Lib.hid (Ext.trans HX.out kx)
      have HZ2 := Lib.hid (Ext.trans H0.out kx)
      have HG2 := Lib.hid (Ext.blk kx HG.out)
      have HR2 := Lib.hid (heap_alloc_last wr (.cells (rnC r).toArray TR))
      obtain ⟨d0, d20, dlt⟩ := rn_cells HR2.out
      have glt : g < wr.heap.size := (Array.getElem?_eq_some_iff.1 HG.out).1
      have KT := Lib.hid (fun (w : World) (k : Ext w0 w) => aTell_any r.1.1 r.1.2.1 r.2 w ok3 ok1 ok2 (RR.ext hen k))
      have KH := Lib.hid (fun w : World => aHear_any r.1.1 (aT r.1.1 r.1.2.1).1 w ok3 ok4)
      have HR := Lib.hid hen
      have HL : Hid (r.1.2.1.ents.length ≤ 100000) := Lib.hid ok1.ents
      have F1 := Lib.hid hBk
      generalize hQ : aT r.1.1 r.1.2.1 = Q at *
      obtain ⟨Q1, Q2⟩ := Q
      simp only at KT KH F1 hE
      subst hE
      clear hQ kx hm hr ht ok1 ok2 ok3 ok4 HX HG H0 hBk hen hrv
      generalize Value.agg (rnC r).toArray = RV at *
      go_upto_region 24 with (first | (refine wpList_ld rfl TR (.tmp 353) rfl LD.out ?_; simp only [Act.put]) | (refine wpList_st rfl TR (.tmp 22) (.tmp 354) rfl STN.out ?_; simp only [Act.put]))
      generalize wr.alloc (.cells (rnC r).toArray TR) = V2 at *
      generalize wr.heap.size = g2 at *
      have LA := Lib.hid (rn_res HR2.out)
      have KT2 := Lib.hid (KT.out _ HZ2.out)
      clear LD STN glt KT
      generalize hRV2 : Value.agg (rsC r.1.2.1 r.2).toArray = RA at *
      go_wp2_with (refine wpList_ld rfl 41 (.tmp 358) rfl LA.out ?_; simp only [Act.put])
      refine KT2.out.mono ?_
      rintro e w4 ⟨rfl, k4⟩
      have HX4 := Lib.hid (Ext.trans HX2.out k4)
      have HZ4 := Lib.hid (Ext.trans HZ2.out k4)
      have HG4 := Lib.hid (Ext.blk k4 HG2.out)
      have HR4 := Lib.hid (Ext.blk k4 HR2.out)
      clear d0 d20 dlt LA HX2 HG2 HZ2 k4 KT2
      obtain ⟨d0, d20, dlt⟩ := rn_cells HR4.out
      go_wp2_with fail
      refine (KH.out _).mono ?_
      rintro e w5 ⟨rv5, rfl, o5, k5⟩
      clear d0 d20 dlt KH HR2
      generalize aH r.1.1 Q1 = Z at *
      obtain ⟨Z1, Z2⟩ := Z
      simp only at o5
      obtain ⟨A5, c5, rfl⟩ := o5.form
      have STN := Lib.hid (new_rsV w5 Z1 A5 Z1.ents.length c5)
      have hx6 := extAl w5 (.cells (rsC Z1 (.slice A5 Z1.ents.length c5)).toArray 41)
      have HO6 := Lib.hid (o5.ext hx6)
      have kx := Ext.trans (a := w4) k5 hx6
      have HX6 := Lib.hid (Ext.trans HX4.out kx)
      have HZ6 := Lib.hid (Ext.trans HZ4.out kx)
      have HG6 := Lib.hid (Ext.blk kx HG4.out)
      have HR6 := Lib.hid (Ext.blk kx HR4.out)
      have HW6 := Lib.hid (heap_alloc_last w5 (.cells (rsC Z1 (.slice A5 Z1.ents.length c5)).toArray 41))
      clear kx hx6 o5 k5 HX4 HG4 HR4 HZ4
      generalize hZV : Value.agg (rsC Z1 (.slice A5 Z1.ents.length c5)).toArray = ZV at *
      go_upto_region 26 with (refine wpList_st rfl 41 (.tmp 25) (.tmp 368) rfl STN.out ?_; simp only [Act.put])
      generalize w5.alloc (.cells (rsC Z1 (.slice A5 Z1.ents.length c5)).toArray 41) = V6 at *
      generalize w5.heap.size = g5 at *
      obtain ⟨-, d20, dlt⟩ := rn_cells HR6.out
      have LA := Lib.hid (rn_res HR6.out)
      have LB := Lib.hid (ldRs HW6.out)
      clear STN hZV hRV2 HR6 HW6
      by_cases hE : r.1.2.2 = 0
      · have hz := F1.out hE
        simp only [Prod.mk.injEq] at hz
        obtain ⟨rfl, rfl⟩ := hz
        have q1 : (r.1.2.2 == 0) = true := by rw [hE]; rfl
        have KS := Lib.hid (rSame_eq r.1.2.1 (.slice A5 r.1.2.1.ents.length c5) r.2 V6 (HO6.out.rr (by decide)) (RR.ext HR.out HZ6.out) HL.out)
        clear F1 hE HO6 HR HL
        generalize r.1.2.2 = E at *
        go_wp2_with (first | (refine wpList_ldB 41 (.tmp 25) rfl (by rfl) LB.out ?_; simp only [Act.put]) | (refine wpList_ldB 41 (.tmp 382) rfl (by rfl) LA.out ?_; simp only [Act.put]))
        refine KS.out.mono ?_
        rintro e w9 ⟨rfl, k9⟩
        have HX9 := Lib.hid (Ext.trans HX6.out k9)
        have HZ9 := Lib.hid (Ext.trans HZ6.out k9)
        have HG9 := Lib.hid (Ext.blk k9 HG6.out)
        clear KS k9 HX6 HZ6 HG6 LA LB
        go_wp2_with fail
        go_roundw
        case rel => exact ⟨j + 1, by omega, by first | rfl | (simp; done) | go_num, HG9, HZ9, HX9⟩
        case measure => first | (simp [intOf]; done) | (simp [intOf]; omega)
      · have q1 : (r.1.2.2 == 0) = false := beq_eq_false_iff_ne.2 hE
        clear F1 hE HO6 HR HL LA LB
        generalize r.1.2.2 = E at *
        go_wp2_with fail
        go_roundw
        case rel => exact ⟨j + 1, by omega, by first | rfl | (simp; done) | go_num, HG6, HZ6, HX6⟩
        case measure => first | (simp [intOf]; done) | (simp [intOf]; omega)
    · obtain rfl : j = 24 := by omega
      go_wp2_with fail
      exact hJ _ _ (by kernel_rfl) (by kernel_rfl) HX

set_option maxHeartbeats 16000000 in
theorem part6 : pk.p6 := by
  intro W S5 HS5 KM5 S6 HS6 KM6 f5 wc X T U Y0 Y Z0 Z1 ZA Z V1 V2 V3 c1 c2 c3 BX J K' Q2 hJ hK
  have eU := BX.out.eU
  have sT := BX.out.sT
  (try simp only [List.append_eq, List.cons_append, List.nil_append])
  go_wp2_with (first
    | (go_at_call 38; refine (h05_any _ _).mono ?_; rintro e wa ⟨rfl, ka⟩; replace X := Lib.hid (Ext.trans X.out ka); clear ka)
    | (go_at_call 40; with_reducible refine (BX.out.kT _).mono ?_; rintro e wa ⟨rfl, ka⟩; replace X := Lib.hid (Ext.trans X.out ka); clear ka)
    | (go_at_call 28; with_reducible refine (BX.out.r1 _).mono ?_; rintro e wa ⟨rfl, ka⟩; replace X := Lib.hid (Ext.trans X.out ka); clear ka)
    | (refine wpList_st rfl 35 (.tmp 27) (.tmp 395) rfl (BX.out.t1 _) ?_; simp only [Act.put]))
  exact hJ _ _ (by kernel_rfl) (by kernel_rfl) ⟨rfl, Lib.hid (Ext.trans X.out (extAl _ _))⟩

set_option maxHeartbeats 16000000 in
theorem part7 : pk.p7 := by
  intro W S5 HS5 KM5 S6 HS6 KM6 T U Y0 Y Z0 Z1 ZA Z V1 V2 V3 c1 c2 c3 BX f6 wc X J K' Q2 hJ hK
  (try simp only [List.append_eq, List.cons_append, List.nil_append])
  go_wp2_with (first
    | (go_at_call 39; with_reducible refine (KM5.out _).mono ?_; rintro e wa ⟨rfl, ka⟩; replace X := Lib.hid (Ext.trans X.out ka); clear ka)
    | (go_at_call 28; with_reducible refine (BX.out.r2 _).mono ?_; rintro e wa ⟨rfl, ka⟩; replace X := Lib.hid (Ext.trans X.out ka); clear ka)
    | (refine wpList_st rfl 35 (.tmp 29) (.tmp 400) rfl (BX.out.t2 _) ?_; simp only [Act.put]))
  exact hJ _ _ (by kernel_rfl) (by kernel_rfl) ⟨rfl, rfl, Lib.hid (Ext.trans X.out (extAl _ _))⟩

set_option maxHeartbeats 16000000 in
theorem part8 : pk.p8 := by
  intro W S5 HS5 KM5 S6 HS6 KM6 T U Y0 Y Z0 Z1 ZA Z V1 V2 V3 c1 c2 c3 BX f7 wc X J K' Q2 hJ hK
  (try simp only [List.append_eq, List.cons_append, List.nil_append])
  go_wp2_with (first
    | (go_at_call 28; with_reducible refine (BX.out.r3 _).mono ?_; rintro e wa ⟨rfl, ka⟩; replace X := Lib.hid (Ext.trans X.out ka); clear ka)
    | (refine wpList_st rfl 35 (.tmp 31) (.tmp 404) rfl (BX.out.t3 _) ?_; simp only [Act.put]))
  exact hJ _ _ (by kernel_rfl) (by kernel_rfl) ⟨rfl, rfl, rfl, Lib.hid (Ext.trans X.out (extAl _ _))⟩

set_option maxHeartbeats 16000000 in
theorem part9 : pk.p9 := by
  intro W S5 HS5 KM5 S6 HS6 KM6 T U Y0 Y Z0 Z1 ZA Z V1 V2 V3 c1 c2 c3 BX f8 wc X J K' Q2 hJ hK
  (try simp only [List.append_eq, List.cons_append, List.nil_append])
  go_wp2_with (first
    | (go_at_call 35; with_reducible refine (BX.out.h4 _).mono ?_; rintro e wa ⟨V, cs, rfl, st, ka⟩; replace X := Lib.hid (Ext.trans X.out ka); have ST := Lib.hid st; clear st ka)
    | (refine wpList_st rfl 41 (.tmp 33) (.tmp 408) rfl (ST.out _) ?_; simp only [Act.put]))
  exact hJ _ _ (by kernel_rfl) (by kernel_rfl) ⟨rfl, rfl, rfl, rfl, Lib.hid (Ext.trans X.out (extAl _ _))⟩

set_option maxHeartbeats 16000000 in
theorem part10 : pk.p10 := by
  intro W S5 HS5 KM5 S6 HS6 KM6 T U Y0 Y Z0 Z1 ZA Z V1 V2 V3 c1 c2 c3 BX f9 wc X J K' Q2 hJ hK
  (try simp only [List.append_eq, List.cons_append, List.nil_append])
  go_wp2_with (first
    | (go_at_call 35; with_reducible refine (BX.out.h5 _).mono ?_; rintro e wa ⟨V, cs, rfl, st, ka⟩; replace X := Lib.hid (Ext.trans X.out ka); have ST := Lib.hid st; clear st ka)
    | (refine wpList_st rfl 41 (.tmp 35) (.tmp 412) rfl (ST.out _) ?_; simp only [Act.put]))
  exact hJ _ _ (by kernel_rfl) (by kernel_rfl) ⟨rfl, rfl, rfl, rfl, rfl, Lib.hid (Ext.trans X.out (extAl _ _))⟩

set_option maxHeartbeats 16000000 in
theorem part11 : pk.p11 := by
  intro W S5 HS5 KM5 S6 HS6 KM6 T U Y0 Y Z0 Z1 ZA Z V1 V2 V3 c1 c2 c3 BX f10 wc X J K' Q2 hJ hK
  (try simp only [List.append_eq, List.cons_append, List.nil_append])
  go_wp2_with (first
    | (go_at_call 35; with_reducible refine (BX.out.h6 _).mono ?_; rintro e wa ⟨V, cs, rfl, st, ka⟩; replace X := Lib.hid (Ext.trans X.out ka); have ST := Lib.hid st; clear st ka)
    | (refine wpList_st rfl 41 (.tmp 37) (.tmp 416) rfl (ST.out _) ?_; simp only [Act.put]))
  exact hJ _ _ (by kernel_rfl) (by kernel_rfl) ⟨rfl, rfl, rfl, rfl, rfl, rfl, Lib.hid (Ext.trans X.out (extAl _ _))⟩

set_option maxHeartbeats 16000000 in
theorem part12 : pk.p12 := by
  intro W S5 HS5 KM5 S6 HS6 KM6 T U Y0 Y Z0 Z1 ZA Z V1 V2 V3 c1 c2 c3 BX f11 wc X J K' Q2 hJ hK
  have e7 := BX.out.e7
  have sY0 := BX.out.sY0
  (try simp only [List.append_eq, List.cons_append, List.nil_append])
  go_wp2_with (first
    | (go_at_call 44; with_reducible refine (BX.out.w7 _).mono ?_; rintro e wa ⟨A, k, c, rfl, hcv0, ka⟩; have hcv := hcv0 _ (Ext.refl _); replace X := Lib.hid (Ext.trans X.out ka); clear ka hcv0)
    | (go_at_call 35; with_reducible refine (BX.out.h7 _).mono ?_; rintro e wa ⟨V, cs, rfl, st, ka⟩; replace X := Lib.hid (Ext.trans X.out ka); have ST := Lib.hid st; clear st ka)
    | (refine wpList_st rfl 41 (.tmp 39) (.tmp 423) rfl (ST.out _) ?_; simp only [Act.put]))
  exact hJ _ _ (by kernel_rfl) (by kernel_rfl) ⟨rfl, rfl, rfl, rfl, rfl, rfl, rfl, Lib.hid (Ext.trans X.out (extAl _ _))⟩

set_option maxHeartbeats 16000000 in
theorem part13 : pk.p13 := by
  intro W S5 HS5 KM5 S6 HS6 KM6 T U Y0 Y Z0 Z1 ZA Z V1 V2 V3 c1 c2 c3 BX f12 wc X J K' Q2 hJ hK
  have e8a := BX.out.e8a
  have e8 := BX.out.e8
  have sZ0 := BX.out.sZ0
  have sZ1 := BX.out.sZ1
  have sZA := BX.out.sZA
  have sS6 := BX.out.sS6
  (try simp only [List.append_eq, List.cons_append, List.nil_append])
  refine wp_region_pieces 8  [(false, [0]), (true, [1]), (false, [2]), (true, [3, 4]), (false, [5]), (true, [6, 7])] (by kernel_rfl) (by kernel_rfl) ?_; simp only [pick, List.map_cons, List.map_nil, List.flatMap_cons, List.flatMap_nil, Option.toList_some, List.singleton_append, List.drop_succ_cons, List.drop_zero, List.getElem?_cons_zero, List.getElem?_cons_succ]
  intro u1 a1 K hK
  go_wp2_with (go_at_call 44; with_reducible refine (BX.out.w8 _).mono ?_; rintro e u2 ⟨A8, k8, n8, rfl, cv8, x8⟩)
  refine hK _ _ x8 ?_
  clear hK K
  have C8 := Lib.hid cv8
  have E2 := Lib.hid (Ext.trans a1 x8)
  clear a1 x8 cv8
  refine ⟨by kernel_rfl, ?_⟩; apply Exists.intro; refine ⟨fun ψ hψ hne => (by (repeat (first | ( go_big_quiet_want; refine quiet_cv 47 9 _ rfl (fun w' hw' => C8.out w' (ext_in hw')) ?_; go_simp; go_big_quiet_on ) | go_big_quiet_step ((  fail )))); exact wpQuiet_nil rfl), ?_⟩
  intro u3 a3 K hK
  go_wp2_with (go_at_call 44; with_reducible refine (BX.out.w9 _).mono ?_; rintro e u4 ⟨A9, k9, n9, rfl, cv9, x9⟩)
  refine hK _ _ x9 ?_
  clear hK K
  have C9 := Lib.hid cv9
  have E4 := Lib.hid (Ext.trans (Ext.trans E2.out a3) x9)
  clear a3 x9 cv9 E2 C8
  refine ⟨by kernel_rfl, ?_⟩; apply Exists.intro; refine ⟨fun ψ hψ hne => (by (repeat (first | ( go_big_quiet_want; refine quiet_cv 47 9 _ rfl (fun w' hw' => C9.out w' (ext_in hw')) ?_; go_simp; go_big_quiet_on ) | go_big_quiet_step ((  fail )))); exact wpQuiet_nil rfl), ?_⟩
  intro u5 a5 K hK
  go_wp2_with (go_at_call 39; with_reducible refine (KM6.out _).mono ?_; rintro e u6 ⟨rfl, x6⟩)
  refine hK _ _ x6 ?_
  clear hK K
  have E6 := Lib.hid (Ext.trans (Ext.trans E4.out a5) x6)
  clear a5 x6 E4 C9
  refine ⟨by kernel_rfl, ?_⟩; apply Exists.intro; refine ⟨fun ψ hψ hne => (by (repeat (go_big_quiet_step (( fail )))); exact wpQuiet_nil rfl), ?_⟩
  intro u7 a7
  go_wp2_with fail
  exact hJ _ _ (by kernel_rfl) (by kernel_rfl) ⟨rfl, rfl, rfl, rfl, rfl, rfl, rfl, rfl, Lib.hid (Ext.trans X.out (Ext.trans E6.out a7))⟩

set_option maxHeartbeats 16000000 in
theorem part14 : pk.p14 := by
  intro W S5 HS5 KM5 S6 HS6 KM6 T U Y0 Y Z0 Z1 ZA Z V1 V2 V3 c1 c2 c3 BX f13 wc X J K' Q2 hJ hK
  (try simp only [List.append_eq, List.cons_append, List.nil_append])
  go_wp2_with (first
    | (go_at_call 35; with_reducible refine (BX.out.h8 _).mono ?_; rintro e wa ⟨V, cs, rfl, st, ka⟩; replace X := Lib.hid (Ext.trans X.out ka); have ST := Lib.hid st; clear st ka)
    | (refine wpList_st rfl 41 (.tmp 42) (.tmp 435) rfl (ST.out _) ?_; simp only [Act.put]))
  exact hJ _ _ (by kernel_rfl) (by kernel_rfl) ⟨rfl, rfl, rfl, rfl, rfl, rfl, rfl, rfl, rfl, Lib.hid (Ext.trans X.out (extAl _ _))⟩

theorem walk (W : World) : Calls Try.prog 6 #[] W fun e w' => e = .returned (.bool true) ∧ Below W.heap.size W w' :=
  pk.h ⟨part1, part2, part3, part4, part5, part6, part7, part8, part9, part10, part11, part12, part13, part14⟩ W
theorem own : ownKnob Try.prog.godebug = none := by kernel_rfl
theorem laidOut : laidOutB Try.prog = true := by kernel_rfl

set_option maxRecDepth 100000 in
theorem lifted (os : Os) (started : os.Started) (H : Type) (enc : TypeId × Value → H) :
    ReturnsInHanded {} Try.checked os 6 .any (Rows.argsNamesSpec.pre6 enc Try.prog Try.f6 Rows.argsNamesRow.domain false) (Rows.argsNamesSpec.post enc Try.prog Try.f6 false true false false) := by
  refine returnsInHanded_of_change (C := Try.checked) own started (by kernel_rfl) Try.func6
    (ChangeSpec.witness6 (enc := enc) (C := Try.checked) false ⟨#[], #[], []⟩ 8 (by kernel_rfl) (by kernel_rfl) (by kernel_rfl) (by kernel_rfl)) ?_
  intro W base args ds gs before hval0 hW hcnd _
  have hval : ∀ (j : Nat) t v, Try.f6.params[j]? = some t → args[j]? = some v → Value.okWide Try.prog W .any base t v := hval0
  have hW' := hW
  obtain ⟨p, q, hA0, hV, rfl, hfz, hnd⟩ := hW
  have hA : DataW.TrodAll enc Try.prog W 0 (fun _ => true) true Try.f6.params.toList args.toList ds p := hA0
  rw [Try.params6] at hA hval
  obtain ⟨rfl, rfl, rfl⟩ := trodAll_none hA
  obtain ⟨rfl, rfl⟩ := trodVars_none hV
  refine (walk  W).mono fun e W' ⟨he, bel⟩ => ?_
  subst he
  exact ⟨_, rfl, _, _, _, [], _, [], hW', trodAll_mk1 (shut_bool Try.underlying4 _), trodAll_mk0, rfl, bel.frame _, fun h => by cases h⟩

theorem proved : Rows.ArgsNamesSaid :=
  OpenClaim.holds_of_wide 6 Try.f6 rfl rfl rfl rfl rfl rfl rfl ⟨rfl, rfl, rfl, rfl, rfl⟩ rfl rfl rfl rfl rfl (by kernel_rfl) Try.func6 (by kernel_rfl)
    (of_decide_eq_true (by kernel_rfl)) (by unfold Func.isWrapper; first | (rw [if_pos (by decide +kernel)]; kernel_rfl) | (rw [if_neg (by decide +kernel)]; exact ⟨rfl, rfl⟩))
    (fun os started H enc _ => lifted os started H enc)
end Go.Proofs.Yteahlnoonmfjhaa.argsNames
