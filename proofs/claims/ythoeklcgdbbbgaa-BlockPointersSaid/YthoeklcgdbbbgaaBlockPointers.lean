/- Proved: BlockPointers returns true whatever pointer and text it is called with, and each argument reads behind the call as before. No condition. -/
import Derived.Test.YthoeklcgdbbbgaaBlkP
import Derived.Test.YthoeklcgdbbbgaaPtLift
import Derived.Deep.DeepCutAuto
set_option linter.unusedVariables false
namespace Go.Proofs.Ythoeklcgdbbbgaa.blockPointers
open Go.RowKit Go.ChangeShapes Go.WideShapes Go.ChangeAt Go.Deep Go.Proofs.Ythoeklcgdbbbgaa
attribute [local go_sem ↓] eql_ptr neq_ptr

set_option maxHeartbeats 16000000 in
set_option maxRecDepth 100000 in
theorem walk0 (a b s : Int) (hs : 0 ≤ s ∧ s ≤ 18446744073709551615) (l : List UInt8) (w : World) (hl : l.length ≤ maxLen) :
    Calls Try.prog 7 #[.agg #[.int .i64 a, .int .i64 b, .int .u64 s], .string (str l)] w fun e w' => e = .returned (.bool true) ∧ Below w.heap.size w w' := by
  have hl0 := hl
  unfold maxLen at hl
  have z1 := str_size l
  by_cases g1 : 1000 < l.length
  · go_enter Try.func7, Try.ntmps7
    go_wp2_with (go_at_call 10; refine (awake_any _).mono ?_; rintro e w0 ⟨rfl, hb0⟩; have hz0 := hb0.size; (try simp only [World.size_alloc] at hz0))
    go_ret
    exact ⟨rfl, by (repeat' (first | (with_reducible assumption) | (with_reducible exact Below.refl _ _) | (with_reducible refine below_sc ?_ ?_) | ((with_reducible show (_ : Nat) ≤ _); omega) | refine Below.setCell ?_ (by first | omega | (simp; done) | (simp; omega)) _ | refine Below.alloc ?_ (by first | omega | (simp; done) | (simp; omega)) _ | refine Below.drew ?_ | refine below_drewN ?_ _ | refine Below.trans ?_ (Below.mono (by assumption) (by first | omega | (simp; done) | (simp; omega)))))⟩
  have k1 := fun w => encode_any a b s hs w
  have k2 := fun w => rencode_any a b s hs w
  have k3 := fun w => decode_any l (by omega) w
  have k4 := fun w => rdecode_any l (by omega) w
  obtain ⟨R1, hR1⟩ : ∃ R, R = pEnc a b s := ⟨_, rfl⟩
  obtain ⟨R3, hR3⟩ : ∃ R, R = pDec l := ⟨_, rfl⟩
  rw [← hR1] at k1 k2
  rw [← hR3] at k3 k4
  clear hR1 hR3
  obtain ⟨S1, E1⟩ := R1
  obtain ⟨⟨pa, pb, ps⟩, e3⟩ := R3
  have hv : ∀ r : List UInt8 × Int, seV r = .tuple #[.string (str r.1), .int .i64 r.2] := fun _ => rfl
  have hp : ∀ (a b c e : Int), toV (⟨a, b, c⟩, e) = .tuple #[.agg #[.int .i64 a, .int .i64 b, .int .u64 c], .int .i64 e] := fun _ _ _ _ => rfl
  simp only [hv, hp] at k1 k2 k3 k4
  have K1 := Lib.hid k1
  have K2 := Lib.hid k2
  have K3 := Lib.hid k3
  have K4 := Lib.hid k4
  clear k1 k2 k3 k4 hv hp
  have q : eqP pa pb ps pa pb ps = true := by simp [eqP]
  have sL := strL
  have B2 := heap_alloc_last w (.cells #[.int .i64 a, .int .i64 b, .int .u64 s] 26)
  go_enter Try.func7, Try.ntmps7
  go_wp2_with fail
  refine (K1.out _).mono ?_
  rintro e w1 ⟨rfl, hb1⟩; have hz1 := hb1.size; (try simp only [World.size_alloc] at hz1)
  have B3 := (hb1.block w.heap.size (by first | omega | (simp; done) | (simp; omega))).trans B2
  have X1 : Ext w w1 := Ext.trans (ext_alloc w _) hb1
  clear B2 hb1 K1
  obtain ⟨c0, c1, c2, -, -, -, lt1⟩ := blk3 B3
  clear B3
  go_wp2_with fail
  refine (K2.out _).mono ?_
  rintro e w2 ⟨rfl, hb2⟩; have hz2 := hb2.size; (try simp only [World.size_alloc] at hz2)
  have X2 : Ext w w2 := Ext.trans X1 hb2
  clear hb2 K2 X1 c0 c1 c2
  go_wp2_with fail
  refine (K3.out _).mono ?_
  rintro e w3 ⟨rfl, hb3⟩; have hz3 := hb3.size; (try simp only [World.size_alloc] at hz3)
  have X3 : Ext w w3 := Ext.trans X2 hb3
  clear hb3 K3 X2
  have B9 := heap_alloc_last w3 (.cells #[.int .i64 pa, .int .i64 pb, .int .u64 ps] 26)
  go_wp2_with fail
  refine (K4.out _).mono ?_
  rintro e w4 ⟨rfl, hb4⟩; have hz4 := hb4.size; (try simp only [World.size_alloc] at hz4)
  have X4 : Below w.heap.size w w4 := Ext.trans X3 (Ext.trans (ext_alloc w3 _) hb4)
  have b9 := (hb4.block w3.heap.size (by first | omega | (simp; done) | (simp; omega))).trans B9
  have lt9 := (Array.getElem?_eq_some_iff.1 b9).1
  have b9' := (Below.heap_alloc w4 (.cells #[.int .i64 pa, .int .i64 pb, .int .u64 ps] 26) w3.heap.size lt9).trans b9
  have b11 := heap_alloc_last w4 (.cells #[.int .i64 pa, .int .i64 pb, .int .u64 ps] 26)
  have X5 : Below w.heap.size w (w4.alloc (.cells #[.int .i64 pa, .int .i64 pb, .int .u64 ps] 26)) := X4.alloc X4.size _
  clear hb4 K4 X3 B9 b9
  have S9 := Lib.hid b9'
  have S11 := Lib.hid b11
  clear b9' b11
  go_upto_region 7 with fail
  generalize w4.alloc (.cells #[.int .i64 pa, .int .i64 pb, .int .u64 ps] 26) = V at *
  obtain ⟨c0, c1, c2, -, -, -, -⟩ := blk3 S9.out
  obtain ⟨d0, d1, d2, -, -, -, -⟩ := blk3 S11.out
  go_wp2_with (go_at_call 10; refine (awake_any _).mono ?_; rintro e w6 ⟨rfl, hb6⟩; have hz6 := hb6.size; (try simp only [World.size_alloc] at hz6))
  go_ret
  exact ⟨rfl, X5.trans (hb6.mono X5.size)⟩

theorem walk (p : PtT) (wp : p.Ok) (l : List UInt8) (hl : l.length ≤ maxLen) (w : World) :
    Calls Try.prog 7 #[p.v, .string (str l)] w fun e w' => e = .returned (.bool true) ∧ Below w.heap.size w w' :=
  walk0 _ _ _ wp.s l w hl

theorem own : ownKnob Try.prog.godebug = none := by kernel_rfl
theorem laidOut : laidOutB Try.prog = true := by kernel_rfl

set_option maxRecDepth 100000 in
theorem lifted (os : Os) (started : os.Started) (H : Type) (enc : TypeId × Value → H) :
    ReturnsInHanded {} Try.checked os 7 .any (Rows.blockPointersSpec.pre6 enc Try.prog Try.f7 Rows.blockPointersRow.domain false) (Rows.blockPointersSpec.post enc Try.prog Try.f7 false true false false) := by
  refine returnsInHanded_of_change (C := Try.checked) own started (by kernel_rfl) Try.func7
    (ChangeSpec.witness6 (enc := enc) (C := Try.checked) false ⟨#[], #[.agg #[.int .i64 0, .int .i64 0, .int .u64 0], .string ⟨#[]⟩], []⟩ 8 (by kernel_rfl) (by kernel_rfl) (by kernel_rfl) (by kernel_rfl)) ?_
  intro W base args ds gs before hval0 hW hcnd _
  have hval : ∀ (j : Nat) t v, Try.f7.params[j]? = some t → args[j]? = some v → Value.okWide Try.prog W .any base t v := hval0
  have hW' := hW
  obtain ⟨p, q, hA0, hV, rfl, hfz, hnd⟩ := hW
  have hA : DataW.TrodAll enc Try.prog W 0 (fun _ => true) true Try.f7.params.toList args.toList ds p := hA0
  rw [Try.params7] at hA hval
  obtain ⟨v0, vs0, d0, ds0, p0, q0, hargs, rfl, rfl, h0, r0⟩ := trodAll_cons hA
  obtain ⟨v1, vs1, d1, ds1, p1, q1, rfl, rfl, rfl, h1, r1⟩ := trodAll_cons r0
  obtain ⟨rfl, rfl, rfl⟩ := trodAll_nil r1
  obtain rfl : args = #[v0, v1] := by cases args; simp_all
  obtain ⟨rfl, rfl⟩ := trodVars_none hV
  have k0 := h0
  have lt0 : ∀ x ∈ p0, x.block < W.heap.size := by obtain ⟨m, hm⟩ := k0; exact DataW.trod_lt m _ _ _ hm
  have k1 := h1
  have lt1 : ∀ x ∈ p1, x.block < W.heap.size := by obtain ⟨m, hm⟩ := k1; exact DataW.trod_lt m _ _ _ hm
  obtain ⟨x0, rfl, w0⟩ := open_ptr (hval 0 _ v0 rfl rfl) h0
  obtain ⟨l1, rfl, wl1⟩ := open_str Try.underlying9 (hval 1 _ v1 rfl rfl) h1
  refine (walk x0 w0 l1 wl1 W).mono fun e W' ⟨he, bel⟩ => ?_
  subst he
  exact ⟨_, rfl, _, _, _, [], _, [], hW', trodAll_mk1 (shut_bool Try.underlying4 _), (trodAll_cons_mk (Below.trod laidOut (by kernel_rfl) (of_decide_eq_true (by kernel_rfl)) k0 bel lt0) (trodAll_cons_mk (Below.trod laidOut (by kernel_rfl) (of_decide_eq_true (by kernel_rfl)) k1 bel lt1) trodAll_mk0)), rfl, bel.frame _, fun h => by cases h⟩

theorem proved : Rows.BlockPointersSaid :=
  OpenClaim.holds_of_wide 7 Try.f7 rfl rfl rfl rfl rfl rfl rfl ⟨rfl, rfl, rfl, rfl, rfl⟩ rfl rfl rfl rfl rfl (by kernel_rfl) Try.func7 (by kernel_rfl)
    (of_decide_eq_true (by kernel_rfl)) (by unfold Func.isWrapper; first | (rw [if_pos (by decide +kernel)]; kernel_rfl) | (rw [if_neg (by decide +kernel)]; exact ⟨rfl, rfl⟩))
    (fun os started H enc _ => lifted os started H enc)
end Go.Proofs.Ythoeklcgdbbbgaa.blockPointers
