/- The claim ArgsBack: the walk of its law, and the statement. -/
import Derived.Test.YteahlnoonmfjhaaAbD
import Derived.Test.YteahlnoonmfjhaaAbW
import Derived.Test.YteahlnoonmfjhaaRsG
import Derived.Test.YteahlnoonmfjhaaRsN
import Derived.Test.YteahlnoonmfjhaaRsV
set_option linter.unusedVariables false
set_option maxRecDepth 100000
namespace Go.Proofs.Yteahlnoonmfjhaa.argsBack
open Go.RowKit Go.ChangeShapes Go.WideShapes Go.ChangeAt Go.Deep Go.Proofs.Yteahlnoonmfjhaa

theorem rs_okw {x : RsT} (h : x.Ok) (h1 : x.text.length ≤ 10000) (h2 : entSum x.ents < 100000) : x.Okw :=
  ⟨h.h, h.at_, by omega, h.n, h.free, h.used, h.verf, fun y hy => ⟨h.each y hy, by have := entSum_mem hy h2; omega⟩, by have := entSum_le x.ents; omega⟩
theorem neq_same (a : AgT) (w : World) : (binOp .neq 35 (.agg (agC a).toArray) (.agg (agC a).toArray)).run Try.prog w = .ok (.bool false) w := by
  unfold agC
  go_simp
theorem ag_okl {a : AgT} (h : a.Okl) (h1 : a.name.length ≤ 20000) (h2 : a.other.length ≤ 20000) (h3 : a.text.length ≤ 20000) : a.Ok := ⟨h.h, h.t, h1, h2, h3, h.at_, h.n, h.mode, h.size, h.stable, h.guard, h.verf⟩
theorem new_ag (w : World) (A : AgT) : (Instr.storeAt 35 (.pointer (some ⟨w.heap.size, 0, none⟩)) (.agg (agC A).toArray)).run Try.prog (w.alloc (.cells #[.int .i64 0, .int .i64 0, .int .i64 0, .int .i64 0, .int .i64 0, .int .i64 0, .string ⟨#[]⟩, .string ⟨#[]⟩, .string ⟨#[]⟩, .int .i64 0, .int .i64 0, .int .i64 0, .int .i64 0, .int .i64 0, .int .i64 0, .int .u64 0] 35)) = .ok () (w.alloc (.cells (agC A).toArray 35)) := by
  have h : (w.alloc (.cells (agC ag0).toArray 35)).heap[w.heap.size]? = some (.cells (agC ag0).toArray 35 (0, 0)) := heap_alloc_last w _
  have := storeAg (a := A) h
  rw [World.setRow_alloc_new] at this
  exact this
attribute [local go_sem ↓] neq_same
set_option maxHeartbeats 8000000 in
theorem walk (p : Int) (hp : (Lit.int .i64 p).wf = true) (x : AgsT) (hx : x.Ok) (y : RssT) (w : World) (hy : y.Ok w) (s : List UInt8) (hsl : s.length ≤ maxLen) :
    Calls Try.prog 7 #[.int .i64 p, x.v, y.v, .string (str s)] w fun e w' => e = .returned (.bool true) ∧ Below w.heap.size w w' := by
  obtain ⟨a⟩ := x
  obtain ⟨x, rv⟩ := y
  unfold AgsT.v RssT.v
  simp only
  replace hx : a.Okl := hx
  have hok : x.Ok := hy.ok
  have hr : EnR w rv x.ents := hy.r
  have hI := i64_wf hp
  have ss := str_size s
  unfold maxLen at hsl
  have KL := Lib.hid (fun (w' : World) (k : Ext w w') => long_any' a x rv w' (RR.ext hr k) ⟨hx.name, hx.other, hx.text⟩ hok.text hok.ents (fun z hz => (hok.each z hz).name))
  have KW := Lib.hid (fun w : World => works05_any w)
  have HR := Lib.hid hr
  have HOK := Lib.hid hok
  have HXX := Lib.hid hx
  have HI := Lib.hid hI
  have hx1 := Ext.trans (extAl w (.cells (agC a).toArray 35)) (extAl _ (.cells (rsC x rv).toArray 41))
  have hb1 := heap_alloc2_old w (.cells (agC a).toArray 35) (.cells (rsC x rv).toArray 41)
  have hb2 := heap_alloc2_new w (.cells (agC a).toArray 35) (.cells (rsC x rv).toArray 41)
  have HN := Lib.hid @new_ag
  have HS := Lib.hid @new_rsV
  clear hy hok hr hI hx
  go_enter Try.func7, Try.ntmps7
  go_upto_region 1 with fail
  generalize (w.alloc (.cells (agC a).toArray 35)).alloc (.cells (rsC x rv).toArray 41) = W1 at *
  generalize Value.agg (rsC x rv).toArray = PV
  have HX1 := Lib.hid hx1
  have HA1 := Lib.hid hb1
  have HB1 := Lib.hid hb2
  clear hx1 hb1 hb2
  go_wp2_with fail
  refine (KW.out _).mono ?_
  rintro e w2 ⟨rfl, k2⟩
  have HX2 := Lib.hid (Ext.trans HX1.out k2)
  have HA2 := Lib.hid (Ext.blk k2 HA1.out)
  have HB2 := Lib.hid (Ext.blk k2 HB1.out)
  have HLa := Lib.hid (ldAg HA2.out)
  have HLb := Lib.hid (ldRs HB2.out)
  clear HX1 HA1 HB1 k2
  go_wp2_with (first | (refine wpList_ldB 35 (.tmp 5) rfl (by rfl) HLa.out ?_; simp only [Act.put]) | (refine wpList_ldB 41 (.tmp 6) rfl (by rfl) HLb.out ?_; simp only [Act.put]))
  refine (KL.out _ HX2.out).mono ?_
  rintro e w3 ⟨B, rfl, k3, hB⟩
  have HX3 := Lib.hid (Ext.trans HX2.out k3)
  have HA3 := Lib.hid (Ext.blk k3 HA2.out)
  have HB3 := Lib.hid (Ext.blk k3 HB2.out)
  clear HX2 HA2 HB2 k3 KL HLa HLb
  cases B with
  | true =>
    go_wp2_with fail
    refine (KW.out _).mono ?_
    rintro e w4 ⟨rfl, k4⟩
    have HX4 := Lib.hid (Ext.trans HX3.out k4)
    clear k4 HX3
    go_wp2_with fail
    go_ret
    exact ⟨rfl, HX4.out⟩
  | false =>
  obtain ⟨h1, h2, h3, h4, h5⟩ := hB rfl
  by_cases hs : (10000 : Int) < (s.length : Int)
  · clear h1 h2 h3 h4 h5 hB
    go_wp2_with fail
    refine (KW.out _).mono ?_
    rintro e w4 ⟨rfl, k4⟩
    have HX4 := Lib.hid (Ext.trans HX3.out k4)
    clear k4 HX3
    go_wp2_with fail
    go_ret
    exact ⟨rfl, HX4.out⟩
  have HSL : Hid (s.length ≤ 10000) := Lib.hid (by omega)
  have hak := ag_okl HXX.out (by omega) (by omega) (by omega)
  have hrk := rs_okw HOK.out (by omega) (by omega)
  have K1 := Lib.hid (fun w : World => aWrite_any p a w HI.out hak)
  have K2 := Lib.hid (fun (w' : World) (k : Ext w w') => aTell_any p x rv w' HI.out hrk HOK.out.e (RR.ext HR.out k))
  have F1 := Lib.hid (fun h => aR_aW (p := p) hak h)
  have F2 := Lib.hid (fun h => aH_aT (p := p) hrk h)
  have L2 := Lib.hid (aT_len p x)
  have HEN : Hid (x.ents.length ≤ 100000) := Lib.hid hrk.ents
  clear h1 h2 h3 h4 h5 hB hak hrk KW HXX HOK
  generalize aW p a = X at *
  generalize aT p x = Y at *
  obtain ⟨X1, X2⟩ := X
  obtain ⟨Y1, Y2⟩ := Y
  simp only at K1 K2 F1 F2 L2
  have HLa := Lib.hid (ldAg HA3.out)
  go_upto_if 41 with (first | (refine wpList_ld rfl 35 (.tmp 5) rfl HLa.out ?_; simp only [Act.put]) | (go_at_call 26; refine (K1.out _).mono ?_; rintro e w4 ⟨rfl, k4⟩))
  have HX4 := Lib.hid (Ext.trans HX3.out k4)
  have HA4 := Lib.hid (Ext.blk k4 HA3.out)
  have HB4 := Lib.hid (Ext.blk k4 HB3.out)
  clear HX3 HA3 HB3 k4 K1 HLa
  go_cut [] (fun wx => Hid (wx.heap[w.heap.size + 1]? = some (.cells (rsC x rv).toArray 41 (0, 0))) ∧ Hid (Ext w wx))
  case first =>
    as_aux_lemma =>
    by_cases g1 : X2 = 0
    · subst g1
      obtain ⟨q1, q2, q3⟩ := F1.out rfl
      have hR := fun w : World => aRead_any p X1 w HI.out (by omega)
      rw [q1] at hR
      have KR := Lib.hid hR
      have sX := str_size X1
      obtain ⟨n, hn⟩ : ∃ n, X1.length = n := ⟨_, rfl⟩
      rw [hn] at sX q2 q3
      generalize str X1 = T at *
      have hm : (n : Int) % 4 = 0 := by omega
      have hm' : (n : Int).tmod 4 = 0 := by rw [Int.tmod_eq_emod_of_nonneg (by omega)]; omega
      have hle : ¬ (4072 : Int) < (n : Int) := by omega
      clear hR q1 q2 q3 F1 F2 L2 hn K2
      simp only at KR
      go_wp2_with fail
      refine (KR.out _).mono ?_
      rintro e w5 ⟨rfl, k5⟩
      have HN5 := Lib.hid (HN.out w5 a)
      have kx := Ext.trans (a := w4) k5 (extAl w5 (.cells (agC a).toArray 35))
      have HX6 := Lib.hid (Ext.trans HX4.out kx)
      have HA6 := Lib.hid (Ext.blk kx HA4.out)
      have HB6 := Lib.hid (Ext.blk kx HB4.out)
      have HG6 := Lib.hid (heap_alloc_last w5 (.cells (agC a).toArray 35))
      clear kx k5 HX4 HA4 HB4 KR
      go_upto_region 6 with (refine wpList_st rfl 35 (.tmp 11) (.tmp 46) rfl HN5.out ?_; simp only [Act.put]; clear HN5)
      generalize w5.alloc (.cells (agC a).toArray 35) = w6 at *
      generalize w5.heap.size = g11 at *
      have HLa := Lib.hid (ldAg HA6.out)
      have HLb := Lib.hid (ldAg HG6.out)
      go_wp2_with (first | (refine wpList_ldB 35 (.tmp 11) rfl (by rfl) HLb.out ?_; simp only [Act.put]) | (refine wpList_ldB 35 (.tmp 5) rfl (by rfl) HLa.out ?_; simp only [Act.put]))
      go_meet
      case rel => exact ⟨HB6, HX6⟩
    · have z1 : (X2 == 0) = false := beq_eq_false_iff_ne.2 g1
      go_wp2_with fail
      go_meet
      case rel => exact ⟨HB4, HX4⟩
  case rest =>
    obtain ⟨HB5, HX5⟩ := hcut
    clear F1 HX4 HA4 HB4
    have K2' := Lib.hid (K2.out wc HX5.out)
    have HLb := Lib.hid (ldRs HB5.out)
    clear K2
    go_upto_if 73 with (first | (refine wpList_ld rfl 41 (.tmp 6) rfl HLb.out ?_; simp only [Act.put]) | (go_at_call 32; refine (K2'.out).mono ?_; rintro e w6 ⟨rfl, k6⟩))
    have HX6 := Lib.hid (Ext.trans HX5.out k6)
    have HB6 := Lib.hid (Ext.blk k6 HB5.out)
    clear HX5 HB5 k6 K2' HLb
    go_cut [] (fun wx => Hid (Ext w wx))
    case first =>
      as_aux_lemma =>
      by_cases g1 : Y2 = 0
      · subst g1
        obtain ⟨q1, q2⟩ := F2.out rfl
        have hR := fun w : World => aHear_any p Y1 w HI.out L2.out
        rw [q1] at hR
        have KR := Lib.hid hR
        have sX := str_size Y1
        obtain ⟨n, hn⟩ : ∃ n, Y1.length = n := ⟨_, rfl⟩
        rw [hn] at sX q2
        generalize str Y1 = T at *
        have hm : (n : Int) % 4 = 0 := by omega
        have hm' : (n : Int).tmod 4 = 0 := by rw [Int.tmod_eq_emod_of_nonneg (by omega)]; omega
        clear hR q1 q2 F2 L2 hn
        go_wp2_with fail
        refine (KR.out _).mono ?_
        rintro e w7 ⟨rv7, rfl, o7, k7⟩
        have o7 : EnO w7 w6.heap.size rv7 x.ents := o7
        obtain ⟨A7, c7, rfl⟩ := o7.form
        have HN7 := Lib.hid (HS.out w7 x A7 x.ents.length c7)
        have hx8 := extAl w7 (.cells (rsC x (.slice A7 x.ents.length c7)).toArray 41)
        have HO8 := Lib.hid (o7.ext hx8)
        have kx := Ext.trans (a := w6) k7 hx8
        have HX8 := Lib.hid (Ext.trans HX6.out kx)
        have HB8 := Lib.hid (Ext.blk kx HB6.out)
        have HG8 := Lib.hid (heap_alloc_last w7 (.cells (rsC x (.slice A7 x.ents.length c7)).toArray 41))
        clear kx k7 o7 hx8 HX6 HB6 KR
        go_upto_region 11 with (refine wpList_st rfl 41 (.tmp 13) (.tmp 78) rfl HN7.out ?_; simp only [Act.put]; clear HN7)
        generalize w7.alloc (.cells (rsC x (.slice A7 x.ents.length c7)).toArray 41) = w8 at *
        generalize w7.heap.size = g13 at *
        generalize Value.agg (rsC x (.slice A7 x.ents.length c7)).toArray = QV
        have KS := Lib.hid (rSame_eq x rv (.slice A7 x.ents.length c7) w8 (RR.ext HR.out HX8.out) (HO8.out.rr (by decide)) HEN.out)
        have HLa := Lib.hid (ldRs HB8.out)
        have HLb := Lib.hid (ldRs HG8.out)
        go_wp2_with (first | (refine wpList_ldB 41 (.tmp 6) rfl (by rfl) HLa.out ?_; simp only [Act.put]) | (refine wpList_ldB 41 (.tmp 13) rfl (by rfl) HLb.out ?_; simp only [Act.put]))
        refine KS.out.mono ?_
        rintro e w9 ⟨rfl, k9⟩
        have HX9 := Lib.hid (Ext.trans HX8.out k9)
        clear KS HLa HLb k9 HX8
        go_wp2_with fail
        go_meet
        case rel => exact HX9
      · have z1 : (Y2 == 0) = false := beq_eq_false_iff_ne.2 g1
        go_wp2_with fail
        go_meet
        case rel => exact HX6
    case rest =>
      have HX7 : Hid (Ext w _) := hcut
      clear F2 HX6 HB6 L2 HR HEN
      have K3 := Lib.hid (fun w : World => aRead_any p s w HI.out (by have := HSL.out; omega))
      have F3 := Lib.hid (fun h => aW_aR (p := p) (s := s) h)
      have O3 := Lib.hid (aR_ok p s)
      generalize aR p s = Z at *
      obtain ⟨Z1, Z2⟩ := Z
      simp only at K3 F3 O3
      go_wp2_with fail
      refine (K3.out _).mono ?_
      rintro e w8 ⟨rfl, k8⟩
      have HN8 := Lib.hid (HN.out w8 Z1)
      have HX9 := Lib.hid (Ext.trans (Ext.trans HX7.out k8) (extAl w8 (.cells (agC Z1).toArray 35)))
      have HG9 := Lib.hid (heap_alloc_last w8 (.cells (agC Z1).toArray 35))
      clear HX7 k8 K3
      go_upto_if 101 with (refine wpList_st rfl 35 (.tmp 15) (.tmp 98) rfl HN8.out ?_; simp only [Act.put]; clear HN8)
      generalize w8.alloc (.cells (agC Z1).toArray 35) = w9 at *
      generalize w8.heap.size = g15 at *
      go_cut [] (fun wx => Hid (Ext w wx))
      case first =>
        as_aux_lemma =>
        by_cases g1 : Z2 = 0
        · subst g1
          have q1 := F3.out rfl
          have hR := fun w : World => aWrite_any p Z1 w HI.out O3.out
          rw [q1] at hR
          have KR := Lib.hid hR
          clear hR q1 F3 O3
          have HLa := Lib.hid (ldAg HG9.out)
          go_wp2_with (refine wpList_ld rfl 35 (.tmp 15) rfl HLa.out ?_; simp only [Act.put])
          refine (KR.out _).mono ?_
          rintro e w10 ⟨rfl, k10⟩
          have HX10 := Lib.hid (Ext.trans HX9.out k10)
          clear k10 HX9
          go_wp2_with fail
          go_meet
          case rel => exact HX10
        · have z1 : (Z2 == 0) = false := beq_eq_false_iff_ne.2 g1
          go_wp2_with fail
          go_meet
          case rel => exact HX9
      case rest =>
        have HX10 : Hid (Ext w _) := hcut
        clear F3 HX9 HG9 O3
        have K4 := Lib.hid (fun w : World => aHear_any p s w HI.out (by have := HSL.out; omega))
        have F4 := Lib.hid (fun h => aT_aH (p := p) (s := s) h)
        generalize aH p s = V at *
        obtain ⟨V1, V2⟩ := V
        simp only at K4 F4
        go_wp2_with fail
        refine (K4.out _).mono ?_
        rintro e w11 ⟨rv11, rfl, o11, k11⟩
        obtain ⟨A11, c11, rfl⟩ := o11.form
        have o11 : EnO w11 _ (.slice A11 V1.ents.length c11) V1.ents := o11
        have HN11 := Lib.hid (HS.out w11 V1 A11 V1.ents.length c11)
        have hx12 := extAl w11 (.cells (rsC V1 (.slice A11 V1.ents.length c11)).toArray 41)
        have HO12 := Lib.hid (o11.ext hx12)
        have HX12 := Lib.hid (Ext.trans (Ext.trans HX10.out k11) hx12)
        have HG12 := Lib.hid (heap_alloc_last w11 (.cells (rsC V1 (.slice A11 V1.ents.length c11)).toArray 41))
        clear k11 o11 hx12 HX10 K4
        go_upto_if 122 with (refine wpList_st rfl 41 (.tmp 18) (.tmp 119) rfl HN11.out ?_; simp only [Act.put]; clear HN11)
        generalize w11.alloc (.cells (rsC V1 (.slice A11 V1.ents.length c11)).toArray 41) = w12 at *
        generalize w11.heap.size = g18 at *
        generalize hPV : Value.agg (rsC V1 (.slice A11 V1.ents.length c11)).toArray = QV
        clear hPV
        by_cases g1 : V2 = 0
        · subst g1
          obtain ⟨q1, q2, q3⟩ := F4.out rfl
          have hR := aTell_any p V1 (.slice A11 V1.ents.length c11) w12 HI.out q2 q3 (HO12.out.rr (by decide))
          rw [q1] at hR
          have KR := Lib.hid hR
          have HLa := Lib.hid (ldRs HG12.out)
          clear hR q1 q2 q3 F4
          go_wp2_with (refine wpList_ld rfl 41 (.tmp 18) rfl HLa.out ?_; simp only [Act.put])
          refine KR.out.mono ?_
          rintro e w13 ⟨rfl, k13⟩
          have HX13 := Lib.hid (Ext.trans HX12.out k13)
          clear k13 HX12
          go_wp2_with fail
          go_ret
          exact ⟨by simp, HX13.out⟩
        · have z1 : (V2 == 0) = false := beq_eq_false_iff_ne.2 g1
          go_wp2_with fail
          go_ret
          exact ⟨by simp, HX12.out⟩

theorem own : ownKnob Try.prog.godebug = none := by kernel_rfl
theorem laidOut : laidOutB Try.prog = true := by kernel_rfl

set_option maxRecDepth 100000 in
theorem lifted (os : Os) (started : os.Started) (H : Type) (enc : TypeId × Value → H) :
    ReturnsInHanded {} Try.checked os 7 .any (Rows.argsBackSpec.pre6 enc Try.prog Try.f7 Rows.argsBackRow.domain false) (Rows.argsBackSpec.post enc Try.prog Try.f7 false true false false) := by
  refine returnsInHanded_of_change (C := Try.checked) own started (by kernel_rfl) Try.func7
    (ChangeSpec.witness6 (enc := enc) (C := Try.checked) false ⟨#[], #[.int .i64 0, .agg #[.int .i64 0, .int .i64 0, .int .i64 0, .int .i64 0, .int .i64 0, .int .i64 0, .string ⟨#[]⟩, .string ⟨#[]⟩, .string ⟨#[]⟩, .int .i64 0, .int .i64 0, .int .i64 0, .int .i64 0, .int .i64 0, .int .i64 0, .int .u64 0], .agg #[.int .i64 0, .int .i64 0, .int .i64 0, .int .i64 0, .int .u8 0, .int .i64 0, .int .i64 0, .int .i64 0, .int .i64 0, .int .i64 0, .int .i64 0, .int .i64 0, .string ⟨#[]⟩, .int .i64 0, .int .i64 0, .int .u64 0, .bool false, .slice none 0 0, .int .u64 0], .string ⟨#[]⟩], []⟩ 8 (by kernel_rfl) (by kernel_rfl) (by kernel_rfl) (by kernel_rfl)) ?_
  intro W base args ds gs before hval0 hW hcnd _
  have hval : ∀ (j : Nat) t v, Try.f7.params[j]? = some t → args[j]? = some v → Value.okWide Try.prog W .any base t v := hval0
  have hW' := hW
  obtain ⟨p, q, hA0, hV, rfl, hfz, hnd⟩ := hW
  have hA : DataW.TrodAll enc Try.prog W 0 (fun _ => true) true Try.f7.params.toList args.toList ds p := hA0
  rw [Try.params7] at hA hval
  obtain ⟨v0, vs0, d0, ds0, p0, q0, hargs, rfl, rfl, h0, r0⟩ := trodAll_cons hA
  obtain ⟨v1, vs1, d1, ds1, p1, q1, rfl, rfl, rfl, h1, r1⟩ := trodAll_cons r0
  obtain ⟨v2, vs2, d2, ds2, p2, q2, rfl, rfl, rfl, h2, r2⟩ := trodAll_cons r1
  obtain ⟨v3, vs3, d3, ds3, p3, q3, rfl, rfl, rfl, h3, r3⟩ := trodAll_cons r2
  obtain ⟨rfl, rfl, rfl⟩ := trodAll_nil r3
  obtain rfl : args = #[v0, v1, v2, v3] := by cases args; simp_all
  obtain ⟨rfl, rfl⟩ := trodVars_none hV
  have k0 := h0
  have lt0 : ∀ x ∈ p0, x.block < W.heap.size := by obtain ⟨m, hm⟩ := k0; exact DataW.trod_lt m _ _ _ hm
  have k1 := h1
  have lt1 : ∀ x ∈ p1, x.block < W.heap.size := by obtain ⟨m, hm⟩ := k1; exact DataW.trod_lt m _ _ _ hm
  have k2 := h2
  have lt2 : ∀ x ∈ p2, x.block < W.heap.size := by obtain ⟨m, hm⟩ := k2; exact DataW.trod_lt m _ _ _ hm
  have k3 := h3
  have lt3 : ∀ x ∈ p3, x.block < W.heap.size := by obtain ⟨m, hm⟩ := k3; exact DataW.trod_lt m _ _ _ hm
  obtain ⟨a0, rfl, -, -, wa0⟩ := open_int Try.underlying3 (hval 0 _ v0 rfl rfl) h0
  obtain ⟨x1, rfl, w1⟩ := open_args (hval 1 _ v1 rfl rfl) h1
  obtain ⟨x2, rfl, w2⟩ := open_Wresult (hval 2 _ v2 rfl rfl) h2
  obtain ⟨l3, rfl, wl3⟩ := open_str Try.underlying9 (hval 3 _ v3 rfl rfl) h3
  refine (walk (w := W) a0 wa0 x1 w1 x2 w2 l3 wl3).mono fun e W' ⟨he, bel⟩ => ?_
  subst he
  exact ⟨_, rfl, _, _, _, [], _, [], hW', trodAll_mk1 (shut_bool Try.underlying4 _), (trodAll_cons_mk (Below.trod laidOut (by kernel_rfl) (of_decide_eq_true (by kernel_rfl)) k0 bel lt0) (trodAll_cons_mk (Below.trod laidOut (by kernel_rfl) (of_decide_eq_true (by kernel_rfl)) k1 bel lt1) (trodAll_cons_mk (Below.trod laidOut (by kernel_rfl) (of_decide_eq_true (by kernel_rfl)) k2 bel lt2) (trodAll_cons_mk (Below.trod laidOut (by kernel_rfl) (of_decide_eq_true (by kernel_rfl)) k3 bel lt3) trodAll_mk0)))), rfl, bel.frame _, fun h => by cases h⟩

theorem proved : Rows.ArgsBackSaid :=
  OpenClaim.holds_of_wide 7 Try.f7 rfl rfl rfl rfl rfl rfl rfl ⟨rfl, rfl, rfl, rfl, rfl⟩ rfl rfl rfl rfl rfl (by kernel_rfl) Try.func7 (by kernel_rfl)
    (of_decide_eq_true (by kernel_rfl)) (by unfold Func.isWrapper; first | (rw [if_pos (by decide +kernel)]; kernel_rfl) | (rw [if_neg (by decide +kernel)]; exact ⟨rfl, rfl⟩))
    (fun os started H enc _ => lifted os started H enc)
end Go.Proofs.Yteahlnoonmfjhaa.argsBack
