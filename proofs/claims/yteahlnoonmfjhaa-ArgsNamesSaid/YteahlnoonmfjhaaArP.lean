/- ArgsNames: the chain of its parts; each part a field of pk. No statement of its own. (Printed by gen_argsnames.py.) -/
import Derived.Test.YteahlnoonmfjhaaAnH
import Derived.Test.YteahlnoonmfjhaaLift
import Derived.Deep.DeepCutAuto
import Derived.Deep.CutBlock
set_option linter.unusedVariables false
set_option linter.unusedSimpArgs false
set_option maxRecDepth 100000
namespace Go.Proofs.Yteahlnoonmfjhaa.argsNames
open Go.RowKit Go.ChangeShapes Go.WideShapes Go.ChangeAt Go.Deep Go.Proofs.Yteahlnoonmfjhaa
attribute [local go_sem ↓] neq_same05

structure Pack (p1 p2 p3 p4 p5 p6 p7 p8 p9 p10 p11 p12 p13 p14 : Prop) : Prop where
  a1 : p1
  a2 : p2
  a3 : p3
  a4 : p4
  a5 : p5
  a6 : p6
  a7 : p7
  a8 : p8
  a9 : p9
  a10 : p10
  a11 : p11
  a12 : p12
  a13 : p13
  a14 : p14
structure Pk (Q : Prop) where
  p1 : Prop
  p2 : Prop
  p3 : Prop
  p4 : Prop
  p5 : Prop
  p6 : Prop
  p7 : Prop
  p8 : Prop
  p9 : Prop
  p10 : Prop
  p11 : Prop
  p12 : Prop
  p13 : Prop
  p14 : Prop
  h : Pack p1 p2 p3 p4 p5 p6 p7 p8 p9 p10 p11 p12 p13 p14 → Q

set_option maxHeartbeats 16000000 in
def pk : Pk (∀ W : World, Calls Try.prog 6 #[] W fun e w' => e = .returned (.bool true) ∧ Below W.heap.size W w') := by
  apply Pk.mk
  intro HP W
  have hm : ∀ n : Nat, n ≤ 100000 → ∃ S : ByteArray, Hid (S = str (zr n)) ∧ Hid (∀ w : World, Calls Try.prog 39 #[.int .i64 n] w fun e w' => e = .returned (.string S) ∧ Ext w w') := fun n hn => ⟨_, Lib.hid rfl, Lib.hid fun w => many05_any n (zr n) rfl hn w⟩
  obtain ⟨S1, HS1, KM1⟩ : ∃ S : ByteArray, Hid (S = str (zr 255)) ∧ Hid (∀ w : World, Calls Try.prog 39 #[.int .i64 255] w fun e w' => e = .returned (.string S) ∧ Ext w w') := hm 255 (by decide)
  obtain ⟨S2, HS2, KM2⟩ : ∃ S : ByteArray, Hid (S = str (zr 256)) ∧ Hid (∀ w : World, Calls Try.prog 39 #[.int .i64 256] w fun e w' => e = .returned (.string S) ∧ Ext w w') := hm 256 (by decide)
  obtain ⟨S3, HS3, KM3⟩ : ∃ S : ByteArray, Hid (S = str (zr 2048)) ∧ Hid (∀ w : World, Calls Try.prog 39 #[.int .i64 2048] w fun e w' => e = .returned (.string S) ∧ Ext w w') := hm 2048 (by decide)
  obtain ⟨S4, HS4, KM4⟩ : ∃ S : ByteArray, Hid (S = str (zr 2049)) ∧ Hid (∀ w : World, Calls Try.prog 39 #[.int .i64 2049] w fun e w' => e = .returned (.string S) ∧ Ext w w') := hm 2049 (by decide)
  obtain ⟨S5, HS5, KM5⟩ : ∃ S : ByteArray, Hid (S = str (zr 24)) ∧ Hid (∀ w : World, Calls Try.prog 39 #[.int .i64 24] w fun e w' => e = .returned (.string S) ∧ Ext w w') := hm 24 (by decide)
  obtain ⟨S6, HS6, KM6⟩ : ∃ S : ByteArray, Hid (S = str (zr 56)) ∧ Hid (∀ w : World, Calls Try.prog 39 #[.int .i64 56] w fun e w' => e = .returned (.string S) ∧ Ext w w') := hm 56 (by decide)
  clear hm
  go_enter Try.func6, Try.ntmps6
  go_wp2_with fail
  refine (works05_any W).mono ?_
  rintro e w1 ⟨rfl, k1⟩
  have X := Lib.hid k1
  clear k1
  go_upto_region 3 with fail
  refine cut494q (fun f wx => ∃ g, f 129 = .slice (some ⟨g, 0, none⟩) 21 21 ∧ f 130 = .int .i64 21 ∧ f 131 = .int .i64 0 ∧ Hid (wx.heap[g]? = some (.cells (anTab.flatMap anC).toArray TA (0, 0))) ∧ Hid (Ext W wx)) ?rest1 ?first1
  case first1 =>
    intro J K' Q2 hJ hK
    rename_i z1 z2 z3 z4 z5
    clear z5 z4 z3 z2 z1
    revert W S1 S2 S3 S4 w1 J K' Q2
    obtain ⟨a1, a2, a3, a4, a5, a6, a7, a8, a9, a10, a11, a12, a13, a14⟩ := HP
    exact a1
  rintro f1 wc ⟨g, h1, h2, h3, HG, HX⟩
  rw [h1, h2, h3]
  clear X h1 h2 h3
  go_upto_block 0 with fail
  refine cut494q (fun f wx => Hid (Ext W wx)) ?rest2 ?first2
  case first2 =>
    intro J K' Q2 hJ hK
    rename_i z1 z2 z3
    clear z3 z2 z1
    revert W f1 wc g J K' Q2
    obtain ⟨a1, a2, a3, a4, a5, a6, a7, a8, a9, a10, a11, a12, a13, a14⟩ := HP
    exact a2
  rintro f2 wd X2
  clear HG HX f1
  have X := X2
  clear X2
  obtain ⟨B1, B2, TN, TT, TO, TE, W0, W1, I1, I2, I3, I4, I5, T1, T2, T3, T4, T5, T6, P2, P3, P4a, P4b, P4c, P5a, P5b, P5c, P5d, P6a, P6b, SX⟩ : ∃ B1 B2 TN TT TO TE W0 W1 I1 I2 I3 I4 I5 T1 T2 T3 T4 T5 T6 P2 P3 P4a P4b P4c P5a P5b P5c P5d P6a P6b : ByteArray, Hid (Six B1 B2 TN TT TO TE W0 W1 I1 I2 I3 I4 I5 T1 T2 T3 T4 T5 T6 P2 P3 P4a P4b P4c P5a P5b P5c P5d P6a P6b) := ⟨_, _, _, _, _, _, _, _, _, _, _, _, _, _, _, _, _, _, _, _, _, _, _, _, _, _, _, _, _, _, Lib.hid six⟩
  go_upto_region 12 with (first | (go_at_call 38; refine (h05_any _ _).mono ?_; rintro e wa ⟨rfl, ka⟩; replace X := Lib.hid (Ext.trans X.out ka); clear ka) | (go_at_call 26; with_reducible refine (SX.out.k1 _).mono ?_; rintro e wa ⟨rfl, ka⟩; replace X := Lib.hid (Ext.trans X.out ka); clear ka))
  go_upto_region 13 with (first | (go_at_call 38; refine (h05_any _ _).mono ?_; rintro e wa ⟨rfl, ka⟩; replace X := Lib.hid (Ext.trans X.out ka); clear ka) | (go_at_call 26; with_reducible refine (SX.out.k2 _).mono ?_; rintro e wa ⟨rfl, ka⟩; replace X := Lib.hid (Ext.trans X.out ka); clear ka))
  go_upto_region 14 with (first | (go_at_call 38; refine (h05_any _ _).mono ?_; rintro e wa ⟨rfl, ka⟩; replace X := Lib.hid (Ext.trans X.out ka); clear ka) | (go_at_call 26; with_reducible refine (SX.out.k3 _).mono ?_; rintro e wa ⟨rfl, ka⟩; replace X := Lib.hid (Ext.trans X.out ka); clear ka))
  go_upto_region 15 with (first | (go_at_call 38; refine (h05_any _ _).mono ?_; rintro e wa ⟨rfl, ka⟩; replace X := Lib.hid (Ext.trans X.out ka); clear ka) | (go_at_call 32; with_reducible refine (SX.out.k4 _).mono ?_; rintro e wa ⟨rfl, ka⟩; replace X := Lib.hid (Ext.trans X.out ka); clear ka))
  go_upto_region 16 with (first | (go_at_call 38; refine (h05_any _ _).mono ?_; rintro e wa ⟨rfl, ka⟩; replace X := Lib.hid (Ext.trans X.out ka); clear ka) | (go_at_call 32; with_reducible refine (SX.out.k5 _).mono ?_; rintro e wa ⟨rfl, ka⟩; replace X := Lib.hid (Ext.trans X.out ka); clear ka))
  go_upto_region 17 with (first | (go_at_call 38; refine (h05_any _ _).mono ?_; rintro e wa ⟨rfl, ka⟩; replace X := Lib.hid (Ext.trans X.out ka); clear ka) | (go_at_call 26; with_reducible refine (SX.out.k6 _).mono ?_; rintro e wa ⟨rfl, ka⟩; replace X := Lib.hid (Ext.trans X.out ka); clear ka))
  (try simp only [List.append_eq, List.cons_append, List.nil_append])
  refine cut494q (fun f wx => f 280 = .bool false ∧ Hid (Ext W wx)) ?rest3 ?first3
  case first3 =>
    intro J K' Q2 hJ hK
    rename_i z1 z2 z3 z4 z5 z6 z7 z8 z9 z10 z11 z12 z13 z14 z15 z16
    clear z16 z15 z14 z13 z1
    revert W f2 wd B1 B2 TN TT TO TE W0 W1 I1 I2 I3 I4 I5 T1 T2 T3 T4 T5 T6 P2 P3 P4a P4b P4c P5a P5b P5c P5d P6a P6b z2 z3 z4 z5 z6 z7 z8 z9 z10 z11 z12 wa J K' Q2
    obtain ⟨a1, a2, a3, a4, a5, a6, a7, a8, a9, a10, a11, a12, a13, a14⟩ := HP
    exact a3
  rintro f3 wc ⟨h1, X3⟩
  rw [h1]
  clear h1 SX X
  have X := X3
  clear X3
  obtain ⟨EE, HEE, hmk⟩ := mk65E
  go_upto_region 20 with fail
  clear hmk
  have kx := extAl wc (.cells EE.toArray 66)
  have HGE := Lib.hid (heap_alloc_last wc (.cells EE.toArray 66))
  replace X := Lib.hid (Ext.trans X.out kx)
  clear kx
  generalize wc.alloc (.cells EE.toArray 66) = V0 at *
  generalize wc.heap.size = ge at *
  have kx := extAl V0 (.cells #[.int .u8 2, .int .i64 (-1), .int .i64 0, .int .i64 0, .int .i64 0, .int .i64 0, .int .i64 0, .int .i64 1099511627776] 38)
  have HAT := heap_alloc_last V0 (.cells #[.int .u8 2, .int .i64 (-1), .int .i64 0, .int .i64 0, .int .i64 0, .int .i64 0, .int .i64 0, .int .i64 1099511627776] 38)
  have HGE1 := Lib.hid (Ext.blk kx HGE.out)
  replace X := Lib.hid (Ext.trans X.out kx)
  clear kx HGE
  go_upto_region 21 with fail
  generalize V0.alloc (.cells #[.int .u8 2, .int .i64 (-1), .int .i64 0, .int .i64 0, .int .i64 0, .int .i64 0, .int .i64 0, .int .i64 1099511627776] 38) = V1 at *
  generalize V0.heap.size = ga at *
  have HAT1 := Lib.hid HAT
  clear HAT
  (try simp only [List.append_eq, List.cons_append, List.nil_append])
  refine cut494q (fun f wx => ∃ g g1, f 349 = .slice (some ⟨g, 0, none⟩) 24 24 ∧ f 350 = .int .i64 24 ∧ f 351 = .int .i64 0 ∧ Hid (wx.heap[g]? = some (.cells ((rnRows ge g1).flatMap rnC).toArray TR (0, 0))) ∧ Hid (∀ x ∈ rnRows ge g1, EnR wx x.2 x.1.2.1.ents ∧ ∃ A n c, x.2 = .slice A n c) ∧ Hid (Ext W wx)) ?rest4 ?first4
  case first4 =>
    intro J K' Q2 hJ hK
    rename_i z1 z2 z3 z4 z5 z6 z7 z8 z9 z10 z11 z12 z13 z14 z15 z16 z17 z18
    clear z18 z17 z16 z15 z1
    revert W S2 S3 S4 f3 EE V0 ge V1 ga J K' Q2
    obtain ⟨a1, a2, a3, a4, a5, a6, a7, a8, a9, a10, a11, a12, a13, a14⟩ := HP
    exact a4
  rintro f4 wc ⟨g, g1, h1, h2, h3, HG, HEN, HX⟩
  rw [h1, h2, h3]
  clear h1 h2 h3 X HGE1 HAT1 HEE f3
  go_upto_block 2 with fail
  refine cut494q (fun f wx => Hid (Ext W wx)) ?rest5 ?first5
  case first5 =>
    intro J K' Q2 hJ hK
    rename_i z1 z2 z3 z4 z5 z6 z7 z8 z9 z10 z11 z12 z13 z14 z15 z16 z17 z18
    clear z18 z17 z1
    revert W ge f4 wc g g1 J K' Q2
    obtain ⟨a1, a2, a3, a4, a5, a6, a7, a8, a9, a10, a11, a12, a13, a14⟩ := HP
    exact a5
  rintro f5 wc X5
  clear HG HX HEN f4
  have X := X5
  clear X5
  obtain ⟨T, U, Y0, Y, Z0, Z1, ZA, Z, V1, V2, V3, c1, c2, c3, BX0⟩ := bad HS5.out HS6.out
  have BX := Lib.hid BX0
  clear BX0
  go_upto_region 29 with fail
  (try simp only [List.append_eq, List.cons_append, List.nil_append])
  refine cut494q (fun f wx => f 28 = .int .i64 4 ∧ Hid (Ext W wx)) ?rest6 ?first6
  case first6 =>
    intro J K' Q2 hJ hK
    rename_i z1 z2 z3 z4 z5 z6 z7 z8 z9 z10 z11 z12 z13 z14 z15 z16 z17 z18 z19 z20
    clear z20 z19 z1
    revert W S5 S6 f5 wc T U Y0 Y Z0 Z1 ZA Z V1 V2 V3 c1 c2 c3 J K' Q2
    obtain ⟨a1, a2, a3, a4, a5, a6, a7, a8, a9, a10, a11, a12, a13, a14⟩ := HP
    exact a6
  rintro f6 wc ⟨h0, X5⟩
  rw [h0]
  clear h0 X f5
  have X := X5
  clear X5
  go_upto_region 30 with fail
  (try simp only [List.append_eq, List.cons_append, List.nil_append])
  refine cut494q (fun f wx => f 28 = .int .i64 4 ∧ f 30 = .int .i64 4 ∧ Hid (Ext W wx)) ?rest7 ?first7
  case first7 =>
    intro J K' Q2 hJ hK
    rename_i z1 z2 z3 z4 z5 z6 z7 z8 z9 z10 z11 z12 z13 z14 z15 z16 z17 z18 z19 z20 z21
    clear z21 z20 z1
    revert W S5 S6 T U Y0 Y Z0 Z1 ZA Z V1 V2 V3 c1 c2 c3 f6 wc J K' Q2
    obtain ⟨a1, a2, a3, a4, a5, a6, a7, a8, a9, a10, a11, a12, a13, a14⟩ := HP
    exact a7
  rintro f7 wc ⟨h0, h1, X5⟩
  rw [h0, h1]
  clear h0 h1 X f6
  have X := X5
  clear X5
  go_upto_region 31 with fail
  (try simp only [List.append_eq, List.cons_append, List.nil_append])
  refine cut494q (fun f wx => f 28 = .int .i64 4 ∧ f 30 = .int .i64 4 ∧ f 32 = .int .i64 62 ∧ Hid (Ext W wx)) ?rest8 ?first8
  case first8 =>
    intro J K' Q2 hJ hK
    rename_i z1 z2 z3 z4 z5 z6 z7 z8 z9 z10 z11 z12 z13 z14 z15 z16 z17 z18 z19 z20 z21 z22
    clear z22 z21 z1
    revert W S5 S6 T U Y0 Y Z0 Z1 ZA Z V1 V2 V3 c1 c2 c3 f7 wc J K' Q2
    obtain ⟨a1, a2, a3, a4, a5, a6, a7, a8, a9, a10, a11, a12, a13, a14⟩ := HP
    exact a8
  rintro f8 wc ⟨h0, h1, h2, X5⟩
  rw [h0, h1, h2]
  clear h0 h1 h2 X f7
  have X := X5
  clear X5
  go_upto_region 32 with fail
  (try simp only [List.append_eq, List.cons_append, List.nil_append])
  refine cut494q (fun f wx => f 28 = .int .i64 4 ∧ f 30 = .int .i64 4 ∧ f 32 = .int .i64 62 ∧ f 34 = .int .i64 62 ∧ Hid (Ext W wx)) ?rest9 ?first9
  case first9 =>
    intro J K' Q2 hJ hK
    rename_i z1 z2 z3 z4 z5 z6 z7 z8 z9 z10 z11 z12 z13 z14 z15 z16 z17 z18 z19 z20 z21 z22 z23
    clear z23 z22 z1
    revert W S5 S6 T U Y0 Y Z0 Z1 ZA Z V1 V2 V3 c1 c2 c3 f8 wc J K' Q2
    obtain ⟨a1, a2, a3, a4, a5, a6, a7, a8, a9, a10, a11, a12, a13, a14⟩ := HP
    exact a9
  rintro f9 wc ⟨h0, h1, h2, h3, X5⟩
  rw [h0, h1, h2, h3]
  clear h0 h1 h2 h3 X f8
  have X := X5
  clear X5
  go_upto_region 33 with fail
  (try simp only [List.append_eq, List.cons_append, List.nil_append])
  refine cut494q (fun f wx => f 28 = .int .i64 4 ∧ f 30 = .int .i64 4 ∧ f 32 = .int .i64 62 ∧ f 34 = .int .i64 62 ∧ f 36 = .int .i64 4 ∧ Hid (Ext W wx)) ?rest10 ?first10
  case first10 =>
    intro J K' Q2 hJ hK
    rename_i z1 z2 z3 z4 z5 z6 z7 z8 z9 z10 z11 z12 z13 z14 z15 z16 z17 z18 z19 z20 z21 z22 z23 z24
    clear z24 z23 z1
    revert W S5 S6 T U Y0 Y Z0 Z1 ZA Z V1 V2 V3 c1 c2 c3 f9 wc J K' Q2
    obtain ⟨a1, a2, a3, a4, a5, a6, a7, a8, a9, a10, a11, a12, a13, a14⟩ := HP
    exact a10
  rintro f10 wc ⟨h0, h1, h2, h3, h4, X5⟩
  rw [h0, h1, h2, h3, h4]
  clear h0 h1 h2 h3 h4 X f9
  have X := X5
  clear X5
  go_upto_region 34 with fail
  (try simp only [List.append_eq, List.cons_append, List.nil_append])
  refine cut494q (fun f wx => f 28 = .int .i64 4 ∧ f 30 = .int .i64 4 ∧ f 32 = .int .i64 62 ∧ f 34 = .int .i64 62 ∧ f 36 = .int .i64 4 ∧ f 38 = .int .i64 4 ∧ Hid (Ext W wx)) ?rest11 ?first11
  case first11 =>
    intro J K' Q2 hJ hK
    rename_i z1 z2 z3 z4 z5 z6 z7 z8 z9 z10 z11 z12 z13 z14 z15 z16 z17 z18 z19 z20 z21 z22 z23 z24 z25
    clear z25 z24 z1
    revert W S5 S6 T U Y0 Y Z0 Z1 ZA Z V1 V2 V3 c1 c2 c3 f10 wc J K' Q2
    obtain ⟨a1, a2, a3, a4, a5, a6, a7, a8, a9, a10, a11, a12, a13, a14⟩ := HP
    exact a11
  rintro f11 wc ⟨h0, h1, h2, h3, h4, h5, X5⟩
  rw [h0, h1, h2, h3, h4, h5]
  clear h0 h1 h2 h3 h4 h5 X f10
  have X := X5
  clear X5
  go_upto_region 35 with fail
  (try simp only [List.append_eq, List.cons_append, List.nil_append])
  refine cut494q (fun f wx => f 28 = .int .i64 4 ∧ f 30 = .int .i64 4 ∧ f 32 = .int .i64 62 ∧ f 34 = .int .i64 62 ∧ f 36 = .int .i64 4 ∧ f 38 = .int .i64 4 ∧ f 40 = .int .i64 4 ∧ Hid (Ext W wx)) ?rest12 ?first12
  case first12 =>
    intro J K' Q2 hJ hK
    rename_i z1 z2 z3 z4 z5 z6 z7 z8 z9 z10 z11 z12 z13 z14 z15 z16 z17 z18 z19 z20 z21 z22 z23 z24 z25 z26
    clear z26 z25 z1
    revert W S5 S6 T U Y0 Y Z0 Z1 ZA Z V1 V2 V3 c1 c2 c3 f11 wc J K' Q2
    obtain ⟨a1, a2, a3, a4, a5, a6, a7, a8, a9, a10, a11, a12, a13, a14⟩ := HP
    exact a12
  rintro f12 wc ⟨h0, h1, h2, h3, h4, h5, h6, X5⟩
  rw [h0, h1, h2, h3, h4, h5, h6]
  clear h0 h1 h2 h3 h4 h5 h6 X f11
  have X := X5
  clear X5
  go_upto_region 36 with fail
  (try simp only [List.append_eq, List.cons_append, List.nil_append])
  refine cut494q (fun f wx => f 28 = .int .i64 4 ∧ f 30 = .int .i64 4 ∧ f 32 = .int .i64 62 ∧ f 34 = .int .i64 62 ∧ f 36 = .int .i64 4 ∧ f 38 = .int .i64 4 ∧ f 40 = .int .i64 4 ∧ f 41 = .string Z ∧ Hid (Ext W wx)) ?rest13 ?first13
  case first13 =>
    intro J K' Q2 hJ hK
    rename_i z1 z2 z3 z4 z5 z6 z7 z8 z9 z10 z11 z12 z13 z14 z15 z16 z17 z18 z19 z20 z21 z22 z23 z24 z25 z26 z27
    clear z27 z26 z1
    revert W S5 S6 T U Y0 Y Z0 Z1 ZA Z V1 V2 V3 c1 c2 c3 f12 wc J K' Q2
    obtain ⟨a1, a2, a3, a4, a5, a6, a7, a8, a9, a10, a11, a12, a13, a14⟩ := HP
    exact a13
  rintro f13 wc ⟨h0, h1, h2, h3, h4, h5, h6, h7, X5⟩
  rw [h0, h1, h2, h3, h4, h5, h6, h7]
  clear h0 h1 h2 h3 h4 h5 h6 h7 X f12
  have X := X5
  clear X5
  go_upto_region 37 with fail
  (try simp only [List.append_eq, List.cons_append, List.nil_append])
  refine cut494q (fun f wx => f 28 = .int .i64 4 ∧ f 30 = .int .i64 4 ∧ f 32 = .int .i64 62 ∧ f 34 = .int .i64 62 ∧ f 36 = .int .i64 4 ∧ f 38 = .int .i64 4 ∧ f 40 = .int .i64 4 ∧ f 41 = .string Z ∧ f 43 = .int .i64 4 ∧ Hid (Ext W wx)) ?rest14 ?first14
  case first14 =>
    intro J K' Q2 hJ hK
    rename_i z1 z2 z3 z4 z5 z6 z7 z8 z9 z10 z11 z12 z13 z14 z15 z16 z17 z18 z19 z20 z21 z22 z23 z24 z25 z26 z27 z28
    clear z28 z27 z1
    revert W S5 S6 T U Y0 Y Z0 Z1 ZA Z V1 V2 V3 c1 c2 c3 f13 wc J K' Q2
    obtain ⟨a1, a2, a3, a4, a5, a6, a7, a8, a9, a10, a11, a12, a13, a14⟩ := HP
    exact a14
  rintro f14 wc ⟨h0, h1, h2, h3, h4, h5, h6, h7, h8, X5⟩
  rw [h0, h1, h2, h3, h4, h5, h6, h7, h8]
  clear h0 h1 h2 h3 h4 h5 h6 h7 h8 X f13
  have X := X5
  clear X5
  go_upto_block 4 with fail
  focus
    go_wp2_with fail
    go_loopw [44] (fun i wr => ∃ p : Int, -2 ≤ p ∧ p ≤ 25 ∧ i = .int .i64 p ∧ Hid (Ext W wr)) (fun i _ => (25 - intOf i).toNat)
    case atStart => exact ⟨-2, by omega, by omega, rfl, X⟩
    case round =>
      clear X
      obtain ⟨p, hp1, hp2, rfl, X⟩ := hrel
      by_cases hpl : p < 25
      · rcases chg_cases p with ⟨rfl, hc⟩ | ⟨h2, h7, h13, hc⟩ | ⟨rfl, hc⟩ | ⟨rfl, hc⟩ | ⟨h2, h7, h13, h17, h18, hc⟩ | ⟨h2, h7, h17, h18, hc⟩
        all_goals
          (try have b2 : (p == 2) = false := beq_eq_false_iff_ne.2 h2)
          (try have b17 : (p == 17) = false := beq_eq_false_iff_ne.2 h17)
          (try have b18 : (p == 18) = false := beq_eq_false_iff_ne.2 h18)
          have KC := Lib.hid (chg_k _ _ hc)
          clear hc
          go_wp2_with (go_at_call 30; with_reducible refine (KC.out _).mono ?_; rintro e wa ⟨rfl, ka⟩; replace X := Lib.hid (Ext.trans X.out ka); clear ka)
          go_roundw
          case rel => exact ⟨_, by omega, by omega, rfl, X⟩
          case measure => first | (simp [intOf]; done) | (simp [intOf]; omega)
      · obtain rfl : p = 25 := by omega
        go_wp2_with fail
        go_ret
        exact ⟨rfl, X.out⟩
end Go.Proofs.Yteahlnoonmfjhaa.argsNames
