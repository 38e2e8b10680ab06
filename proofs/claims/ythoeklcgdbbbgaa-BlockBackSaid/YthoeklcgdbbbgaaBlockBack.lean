/- Proved: BlockBack returns true whatever kind, birth, body, block and text it is called with, and each argument reads behind the call as before. No condition. -/
import Derived.Test.YthoeklcgdbbbgaaBlkM
import Derived.Test.YthoeklcgdbbbgaaBkLift
import Derived.Deep.DeepCutAuto
set_option linter.unusedVariables false
namespace Go.Proofs.Ythoeklcgdbbbgaa.blockBack
open Go.RowKit Go.ChangeShapes Go.WideShapes Go.ChangeAt Go.Deep Go.Proofs.Ythoeklcgdbbbgaa
attribute [local go_sem ↓] neq_blk eql_blk eql_ptr neq_ptr

theorem wpList_ldg {P : Program} {ops : Array Oper} {rest : List Oper} {o : Oper} {a : Act} {w : World} {Q : Exit → Act → World → Prop} (ty : TypeId) (x : Operand) (ho : o.op = .load ty x) (hg : Region.wanted o (yielded ops a.tmps) = true) {v : Value} (hr : (Instr.loadAt ty (a.eval x)).run P w = .ok v w)
    (h : wpList P ops Q rest (a.put o.dst v) w) : wpList P ops Q (o :: rest) a w := by
  unfold wpList
  rw [if_pos hg]
  refine .inl ?_
  unfold Oper.wp execOp
  simp only [ho, Sem.run_bind, hr, Result.andThen_ok, Sem.run_pure]
  exact h
theorem openR_len {l : List UInt8} (h : l.length = 512) : (openR l).s.length ≤ 512 := by
  unfold openR
  (repeat' split) <;> simp <;> omega
theorem pDec_bd (l : List UInt8) : 0 ≤ (pDec l).1.s ∧ (pDec l).1.s ≤ 18446744073709551615 := by
  unfold pDec
  split
  · rename_i h
    have := nB_bd ((l.drop 8).take 8)
    have h8 : ((l.drop 8).take 8).length = 8 := by simp; omega
    rw [h8] at this
    show 0 ≤ nAt l 8 8 ∧ nAt l 8 8 ≤ _
    unfold nAt
    omega
  · exact ⟨by decide, by decide⟩
set_option maxHeartbeats 16000000 in
set_option maxRecDepth 100000 in
theorem walk0 (k : UInt8) (y : Int) (l : List UInt8) (B : List UInt8) (s : List UInt8) (w : World) (hl : l.length ≤ maxLen) (hB : B.length = 512) (hs : s.length ≤ maxLen) :
    Calls Try.prog 9 #[.int .u8 k.toNat, .int .i64 y, .string (str l), .agg (bvs B).toArray, .string (str s)] w fun e w' => e = .returned (.bool true) ∧ Below w.heap.size w w' := by
  have hl0 := hl
  unfold maxLen at hl hs
  have z1 := str_size l
  have z2 := str_size s
  have hk := k.toNat_lt
  by_cases g1 : 1000 < l.length
  · go_enter Try.func9, Try.ntmps9
    go_wp2_with (go_at_call 10; refine (awake_any _).mono ?_; rintro e w0 ⟨rfl, hb0⟩; have hz0 := hb0.size; (try simp only [World.size_alloc] at hz0))
    go_ret
    exact ⟨rfl, by (repeat' (first | (with_reducible assumption) | (with_reducible exact Below.refl _ _) | (with_reducible refine below_sc ?_ ?_) | ((with_reducible show (_ : Nat) ≤ _); omega) | refine Below.setCell ?_ (by first | omega | (simp; done) | (simp; omega)) _ | refine Below.alloc ?_ (by first | omega | (simp; done) | (simp; omega)) _ | refine Below.drew ?_ | refine below_drewN ?_ _ | refine Below.trans ?_ (Below.mono (by assumption) (by first | omega | (simp; done) | (simp; omega)))))⟩
  by_cases g2 : 1000 < s.length
  · go_enter Try.func9, Try.ntmps9
    go_wp2_with (go_at_call 10; refine (awake_any _).mono ?_; rintro e w0 ⟨rfl, hb0⟩; have hz0 := hb0.size; (try simp only [World.size_alloc] at hz0))
    go_ret
    exact ⟨rfl, by (repeat' (first | (with_reducible assumption) | (with_reducible exact Below.refl _ _) | (with_reducible refine below_sc ?_ ?_) | ((with_reducible show (_ : Nat) ≤ _); omega) | refine Below.setCell ?_ (by first | omega | (simp; done) | (simp; omega)) _ | refine Below.alloc ?_ (by first | omega | (simp; done) | (simp; omega)) _ | refine Below.drew ?_ | refine below_drewN ?_ _ | refine Below.trans ?_ (Below.mono (by assumption) (by first | omega | (simp; done) | (simp; omega)))))⟩
  obtain ⟨R1, hR1⟩ : ∃ R, R = sealR k y l := ⟨_, rfl⟩
  obtain ⟨R2, hR2⟩ : ∃ R, R = openR B := ⟨_, rfl⟩
  obtain ⟨R3, hR3⟩ : ∃ R, R = pDec s := ⟨_, rfl⟩
  have l1 : R1.1.length = 512 := by rw [hR1]; exact sealR_length
  have f1 : R1.2 = 0 → openR R1.1 = ⟨k, y, l, 0⟩ := fun h => by
    rw [hR1] at h ⊢
    obtain ⟨v0, v1, v2, e⟩ := sealR_ok h
    rw [e]; exact open_seal v0 v1 v2
  have f2 : R2.e = 0 → sealR R2.k R2.b R2.s = (B, 0) := fun h => by rw [hR2] at h ⊢; exact open_ok h
  have f3 : R3.2 = 0 → pEnc R3.1.a R3.1.b R3.1.s = (s, 0) := fun h => by rw [hR3] at h ⊢; exact dec_back h
  have b3 : 0 ≤ R3.1.s ∧ R3.1.s ≤ 18446744073709551615 := by rw [hR3]; exact pDec_bd s
  have z3 : R2.s.length ≤ 512 := by rw [hR2]; exact openR_len hB
  have k1 := fun w => seal_any k y l w hl0
  have k2 := fun w => open_any B hB w
  have k3 := fun w => decode_any s (by omega) w
  have kO := fun w => open_any R1.1 l1 w
  have kS := fun w => seal_any R2.k R2.b R2.s w (by unfold maxLen; omega)
  have kE := fun w => encode_any R3.1.a R3.1.b R3.1.s b3 w
  rw [← hR1] at k1
  rw [← hR2] at k2
  rw [← hR3] at k3
  clear hR1 hR2 hR3 hl0 b3 z3
  obtain ⟨S1, E1⟩ := R1
  obtain ⟨k', y', l', e2⟩ := R2
  obtain ⟨⟨pa, pb, ps⟩, e3⟩ := R3
  simp only at f1 f2 f3 l1 kO kS kE
  have hv : ∀ r : List UInt8 × Int, seV r = .tuple #[.string (str r.1), .int .i64 r.2] := fun _ => rfl
  have hb : ∀ r : List UInt8 × Int, beV r = .tuple #[.agg (bvs r.1).toArray, .int .i64 r.2] := fun _ => rfl
  have ho : ∀ r : OpT, r.v = .tuple #[.int .u8 r.k.toNat, .int .i64 r.b, .string (str r.s), .int .i64 r.e] := fun _ => rfl
  have hp : ∀ (a b c e : Int), toV (⟨a, b, c⟩, e) = .tuple #[.agg #[.int .i64 a, .int .i64 b, .int .u64 c], .int .i64 e] := fun _ _ _ _ => rfl
  simp only [hv, hb, ho, hp] at k1 k2 k3 kO kS kE
  have K1 := Lib.hid k1
  have K2 := Lib.hid k2
  have K3 := Lib.hid k3
  have KO := Lib.hid kO
  have KS := Lib.hid kS
  have KE := Lib.hid kE
  have F1 := Lib.hid f1
  have F2 := Lib.hid f2
  have F3 := Lib.hid f3
  clear f1 f2 f3 k1 k2 k3 kO kS kE hv hb ho hp
  have sL := strL
  go_enter Try.func9, Try.ntmps9
  go_wp2_with (go_at_call 10; refine (awake_any _).mono ?_; rintro e w0 ⟨rfl, hb0⟩; have hz0 := hb0.size; (try simp only [World.size_alloc] at hz0))
  refine (K1.out _).mono ?_
  rintro e w1 ⟨rfl, hb1⟩; have hz1 := hb1.size; (try simp only [World.size_alloc] at hz1)
  have X1 : Below w.heap.size w w1 := Ext.trans (Ext.trans (ext_alloc w _) hb0) hb1
  have b8 := (hb1.block w.heap.size (by first | omega | (simp; done) | (simp; omega))).trans ((hb0.block w.heap.size (by first | omega | (simp; done) | (simp; omega))).trans (heap_alloc_last w _))
  have lt8 := (Array.getElem?_eq_some_iff.1 b8).1
  have st := st_blk (l := S1) (heap_alloc_last w1 (.cells (bvs zB).toArray 23)) zB_length l1
  rw [World.setRow_alloc_new] at st
  have St := Lib.hid st
  have B11 := Lib.hid (heap_alloc_last w1 (.cells (bvs S1).toArray 23))
  have B8 := Lib.hid ((Below.heap_alloc w1 (.cells (bvs S1).toArray 23) w.heap.size lt8).trans b8)
  have X2 : Below w.heap.size w (w1.alloc (.cells (bvs S1).toArray 23)) := X1.alloc X1.size _
  clear hb0 hb1 b8 st X1 K1 lt8
  go_upto_if 48 with (first | (refine wpList_al rfl 23 rfl alloc_blk ?_; simp only [Act.put]) | (refine wpList_st rfl 23 (.tmp 11) (.tmp 45) rfl St.out ?_; simp only [Act.put]))
  clear St
  generalize w1.alloc (.cells (bvs S1).toArray 23) = V at *
  go_cut [] (fun wx => Hid (wx.heap[w.heap.size]? = some (.cells (bvs B).toArray 23 (0, 0))) ∧ Hid (Below w.heap.size w wx))
  case first =>
    by_cases g3 : E1 = 0
    · subst g3
      have q1 := F1.out rfl
      have ko := KO.out
      rw [q1] at ko
      simp only at ko
      have KO' := Lib.hid ko
      clear ko KO q1
      have ld11 := Lib.hid (ld_blk B11.out l1)
      go_wp2_with (refine wpList_ld rfl 23 (.tmp 11) rfl ld11.out ?_; simp only [Act.put])
      refine (KO'.out _).mono ?_
      rintro e w2 ⟨rfl, hb2⟩; have hz2 := hb2.size; (try simp only [World.size_alloc] at hz2)
      have B8' := Lib.hid ((hb2.block w.heap.size (Array.getElem?_eq_some_iff.1 B8.out).1).trans B8.out)
      have X3 : Ext w w2 := Ext.trans X2 hb2
      clear hb2 B8 X2 ld11 B11
      go_wp2_with fail
      go_meet
      case rel => exact ⟨B8', Lib.hid X3⟩
    · have z1 : (E1 == 0) = false := beq_eq_false_iff_ne.2 g3
      go_wp2_with fail
      go_meet
      case rel => exact ⟨B8, Lib.hid X2⟩
  case rest =>
    obtain ⟨B8', X3⟩ := hcut
    clear B8 X2 B11 KO F1
    have ld8 := Lib.hid (ld_blk B8'.out hB)
    go_wp2_with (refine wpList_ld rfl 23 (.tmp 8) rfl ld8.out ?_; simp only [Act.put])
    refine (K2.out _).mono ?_
    rintro e w2 ⟨rfl, hb2⟩; have hz2 := hb2.size; (try simp only [World.size_alloc] at hz2)
    have B8 := Lib.hid ((hb2.block w.heap.size (Array.getElem?_eq_some_iff.1 B8'.out).1).trans B8'.out)
    have X4 : Ext w w2 := Ext.trans X3.out hb2
    clear hb2 B8' X3 ld8
    go_upto_if 81 with fail
    go_cut [] (fun wx => Hid (Ext w wx))
    case first =>
      by_cases g3 : e2 = 0
      · subst g3
        have q2 := F2.out rfl
        have ks := KS.out
        rw [q2] at ks
        simp only at ks
        have KS' := Lib.hid ks
        clear ks KS q2
        go_wp2_with fail
        refine (KS'.out _).mono ?_
        rintro e w3 ⟨rfl, hb3⟩; have hz3 := hb3.size; (try simp only [World.size_alloc] at hz3)
        have b8 := (hb3.block w.heap.size (Array.getElem?_eq_some_iff.1 B8.out).1).trans B8.out
        have X5 : Ext w w3 := Ext.trans X4 hb3
        have lt8 := (Array.getElem?_eq_some_iff.1 b8).1
        have st := st_blk (l := B) (heap_alloc_last w3 (.cells (bvs zB).toArray 23)) zB_length hB
        rw [World.setRow_alloc_new] at st
        have St4 := Lib.hid st
        have ld8 := Lib.hid (ld_blk ((Below.heap_alloc w3 (.cells (bvs B).toArray 23) w.heap.size lt8).trans b8) hB)
        have ld21 := Lib.hid (ld_blk (heap_alloc_last w3 (.cells (bvs B).toArray 23)) hB)
        have X6 : Ext w (w3.alloc (.cells (bvs B).toArray 23)) := Ext.trans X5 (ext_alloc w3 _)
        have q : eqB B B = true := by simp [eqB]
        clear hb3 b8 st X4 X5 B8 lt8
        go_upto_region 11 with (first | (refine wpList_al rfl 23 rfl alloc_blk ?_; simp only [Act.put]) | (refine wpList_st rfl 23 (.tmp 21) (.tmp 87) rfl St4.out ?_; simp only [Act.put]))
        clear St4
        generalize w3.alloc (.cells (bvs B).toArray 23) = V at *
        go_wp2_with (first | (refine wpList_ldg 23 (.tmp 21) rfl (by rfl) ld21.out ?_; simp only [Act.put]) | (refine wpList_ldg 23 (.tmp 8) rfl (by rfl) ld8.out ?_; simp only [Act.put]))
        go_meet
        case rel => exact Lib.hid X6
      · have z1 : (e2 == 0) = false := beq_eq_false_iff_ne.2 g3
        go_wp2_with fail
        go_meet
        case rel => exact Lib.hid X4
    case rest =>
      have X5 := hcut.out
      clear hcut X4 B8 K2 KS F2
      go_wp2_with fail
      refine (K3.out _).mono ?_
      rintro e w3 ⟨rfl, hb3⟩; have hz3 := hb3.size; (try simp only [World.size_alloc] at hz3)
      have X6 : Below w.heap.size w w3 := Ext.trans X5 hb3
      clear hb3 X5 K3
      by_cases g3 : e3 = 0
      · subst g3
        have q3 := F3.out rfl
        have ke := KE.out
        rw [q3] at ke
        simp only at ke
        have KE' := Lib.hid ke
        clear ke KE q3
        have b23 := Lib.hid (heap_alloc_last w3 (.cells #[.int .i64 pa, .int .i64 pb, .int .u64 ps] 26))
        go_wp2_with fail
        refine (KE'.out _).mono ?_
        rintro e w4 ⟨rfl, hb4⟩; have hz4 := hb4.size; (try simp only [World.size_alloc] at hz4)
        have X7 : Below w.heap.size w w4 := Ext.trans X6 (Ext.trans (ext_alloc w3 _) hb4)
        clear hb4 X6 KE'
        go_wp2_with fail
        go_ret
        exact ⟨rfl, X7⟩
      · have z1 : (e3 == 0) = false := beq_eq_false_iff_ne.2 g3
        have z5 : (e3 != 0) = true := bne_iff_ne.2 g3
        go_wp2_with fail
        go_ret
        exact ⟨rfl, X6.alloc X6.size _⟩

theorem walk (k : Int) (wk : (Lit.int .u8 k).wf = true) (y : Int) (wy : (Lit.int .i64 y).wf = true) (l : List UInt8) (hl : l.length ≤ maxLen) (b : BkT) (wb : b.Ok) (s : List UInt8) (hs : s.length ≤ maxLen) (w : World) :
    Calls Try.prog 9 #[.int .u8 k, .int .i64 y, .string (str l), b.v, .string (str s)] w fun e w' => e = .returned (.bool true) ∧ Below w.heap.size w w' := by
  have u8 : ∀ k : Int, (Lit.int .u8 k).wf = true → ∃ cb : UInt8, k = (cb.toNat : Int) := fun k wk => ⟨byteOf k, by
    rw [byteOf_toNat]
    have : 0 ≤ k ∧ k ≤ 255 := by simp [Lit.wf, IntKind.min, IntKind.max, IntKind.signed, IntKind.bits] at wk; omega
    omega⟩
  obtain ⟨c, rfl⟩ := u8 k wk
  exact walk0 c y l b.l s w hl wb.l hs

theorem own : ownKnob Try.prog.godebug = none := by kernel_rfl
theorem laidOut : laidOutB Try.prog = true := by kernel_rfl

set_option maxRecDepth 100000 in
theorem lifted (os : Os) (started : os.Started) (H : Type) (enc : TypeId × Value → H) :
    ReturnsInHanded {} Try.checked os 9 .any (Rows.blockBackSpec.pre6 enc Try.prog Try.f9 Rows.blockBackRow.domain false) (Rows.blockBackSpec.post enc Try.prog Try.f9 false true false false) := by
  refine returnsInHanded_of_change (C := Try.checked) own started (by kernel_rfl) Try.func9
    (ChangeSpec.witness6 (enc := enc) (C := Try.checked) false ⟨#[], #[.int .u8 0, .int .i64 0, .string ⟨#[]⟩, .agg (Array.replicate 512 (.int .u8 0)), .string ⟨#[]⟩], []⟩ 8 (by kernel_rfl) (by kernel_rfl) (by kernel_rfl) (by kernel_rfl)) ?_
  intro W base args ds gs before hval0 hW hcnd _
  have hval : ∀ (j : Nat) t v, Try.f9.params[j]? = some t → args[j]? = some v → Value.okWide Try.prog W .any base t v := hval0
  have hW' := hW
  obtain ⟨p, q, hA0, hV, rfl, hfz, hnd⟩ := hW
  have hA : DataW.TrodAll enc Try.prog W 0 (fun _ => true) true Try.f9.params.toList args.toList ds p := hA0
  rw [Try.params9] at hA hval
  obtain ⟨v0, vs0, d0, ds0, p0, q0, hargs, rfl, rfl, h0, r0⟩ := trodAll_cons hA
  obtain ⟨v1, vs1, d1, ds1, p1, q1, rfl, rfl, rfl, h1, r1⟩ := trodAll_cons r0
  obtain ⟨v2, vs2, d2, ds2, p2, q2, rfl, rfl, rfl, h2, r2⟩ := trodAll_cons r1
  obtain ⟨v3, vs3, d3, ds3, p3, q3, rfl, rfl, rfl, h3, r3⟩ := trodAll_cons r2
  obtain ⟨v4, vs4, d4, ds4, p4, q4, rfl, rfl, rfl, h4, r4⟩ := trodAll_cons r3
  obtain ⟨rfl, rfl, rfl⟩ := trodAll_nil r4
  obtain rfl : args = #[v0, v1, v2, v3, v4] := by cases args; simp_all
  obtain ⟨rfl, rfl⟩ := trodVars_none hV
  have k0 := h0
  have lt0 : ∀ x ∈ p0, x.block < W.heap.size := by obtain ⟨m, hm⟩ := k0; exact DataW.trod_lt m _ _ _ hm
  have k1 := h1
  have lt1 : ∀ x ∈ p1, x.block < W.heap.size := by obtain ⟨m, hm⟩ := k1; exact DataW.trod_lt m _ _ _ hm
  have k2 := h2
  have lt2 : ∀ x ∈ p2, x.block < W.heap.size := by obtain ⟨m, hm⟩ := k2; exact DataW.trod_lt m _ _ _ hm
  have k3 := h3
  have lt3 : ∀ x ∈ p3, x.block < W.heap.size := by obtain ⟨m, hm⟩ := k3; exact DataW.trod_lt m _ _ _ hm
  have k4 := h4
  have lt4 : ∀ x ∈ p4, x.block < W.heap.size := by obtain ⟨m, hm⟩ := k4; exact DataW.trod_lt m _ _ _ hm
  obtain ⟨a0, rfl, -, -, wa0⟩ := open_int Try.underlying5 (hval 0 _ v0 rfl rfl) h0
  obtain ⟨a1, rfl, -, -, wa1⟩ := open_int Try.underlying3 (hval 1 _ v1 rfl rfl) h1
  obtain ⟨l2, rfl, wl2⟩ := open_str Try.underlying9 (hval 2 _ v2 rfl rfl) h2
  obtain ⟨x3, rfl, w3⟩ := open_blk (hval 3 _ v3 rfl rfl) h3
  obtain ⟨l4, rfl, wl4⟩ := open_str Try.underlying9 (hval 4 _ v4 rfl rfl) h4
  refine (walk a0 wa0 a1 wa1 l2 wl2 x3 w3 l4 wl4 W).mono fun e W' ⟨he, bel⟩ => ?_
  subst he
  exact ⟨_, rfl, _, _, _, [], _, [], hW', trodAll_mk1 (shut_bool Try.underlying4 _), (trodAll_cons_mk (Below.trod laidOut (by kernel_rfl) (of_decide_eq_true (by kernel_rfl)) k0 bel lt0) (trodAll_cons_mk (Below.trod laidOut (by kernel_rfl) (of_decide_eq_true (by kernel_rfl)) k1 bel lt1) (trodAll_cons_mk (Below.trod laidOut (by kernel_rfl) (of_decide_eq_true (by kernel_rfl)) k2 bel lt2) (trodAll_cons_mk (Below.trod laidOut (by kernel_rfl) (of_decide_eq_true (by kernel_rfl)) k3 bel lt3) (trodAll_cons_mk (Below.trod laidOut (by kernel_rfl) (of_decide_eq_true (by kernel_rfl)) k4 bel lt4) trodAll_mk0))))), rfl, bel.frame _, fun h => by cases h⟩

theorem proved : Rows.BlockBackSaid :=
  OpenClaim.holds_of_wide 9 Try.f9 rfl rfl rfl rfl rfl rfl rfl ⟨rfl, rfl, rfl, rfl, rfl⟩ rfl rfl rfl rfl rfl (by kernel_rfl) Try.func9 (by kernel_rfl)
    (of_decide_eq_true (by kernel_rfl)) (by unfold Func.isWrapper; first | (rw [if_pos (by decide +kernel)]; kernel_rfl) | (rw [if_neg (by decide +kernel)]; exact ⟨rfl, rfl⟩))
    (fun os started H enc _ => lifted os started H enc)
end Go.Proofs.Ythoeklcgdbbbgaa.blockBack
