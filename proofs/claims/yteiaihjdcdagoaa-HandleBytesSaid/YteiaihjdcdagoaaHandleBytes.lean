/- Proved: HandleBytes returns true whatever two handles and text it is called with, and each argument reads behind the call as before. No condition. -/
import Derived.Test.YteiaihjdcdagoaaHandleG
import Derived.Test.YteiaihjdcdagoaaLift
set_option linter.unusedVariables false
namespace Go.Proofs.Yteiaihjdcdagoaa.handleBytes
open Go.RowKit Go.ChangeShapes Go.WideShapes Go.ChangeAt
attribute [local go_sem ↓] neq_handle eql_handle

theorem encV_form (a b c : Int) : ∃ S E, encV a b c = .tuple #[.string S, .int .i64 E] := by
  unfold encV
  split
  · exact ⟨_, _, rfl⟩
  · exact ⟨_, _, rfl⟩
theorem decV_form (l : List UInt8) : ∃ x y z E, decV l = .tuple #[.agg #[.int .i64 x, .int .i64 y, .int .i64 z], .int .i64 E] := by
  unfold decV
  split
  · exact ⟨_, _, _, _, rfl⟩
  · exact ⟨0, 0, 0, _, rfl⟩

theorem walk (a b c : Int) (_ : (Lit.int .i64 a).wf = true) (_ : (Lit.int .i64 b).wf = true) (_ : (Lit.int .i64 c).wf = true) (x y z : Int) (_ : (Lit.int .i64 x).wf = true) (_ : (Lit.int .i64 y).wf = true) (_ : (Lit.int .i64 z).wf = true)
    (l : List UInt8) (hl : l.length ≤ maxLen) (w : World) :
    Calls Try.prog 3 #[hv a b c, hv x y z, .string (str l)] w fun e w' => e = .returned (.bool true) ∧ Below w.heap.size w w' := by
  unfold maxLen at hl
  have hu : ∀ s i g, hv s i g = .agg #[.int .i64 s, .int .i64 i, .int .i64 g] := fun _ _ _ => rfl
  have hs : (str l).size = l.length := str_size l
  by_cases hlong : 1000 < l.length
  · have hlong' : (1000 : Int) < l.length := by omega
    go_enter Try.func3, Try.ntmps3
    go_wp2_with (go_at_call 9; refine (awake_any _).mono ?_; rintro e w1 ⟨rfl, hb1⟩; have hz1 := hb1.size; (try simp only [World.size_alloc] at hz1))
    go_ret
    exact ⟨rfl, by (repeat (first | exact Below.refl _ _ | refine Below.setCell ?_ (by first | omega | (simp; done) | (simp; omega)) _ | refine Below.alloc ?_ (by first | omega | (simp; done) | (simp; omega)) _ | refine Below.drew ?_ | refine below_drewN ?_ _ | refine Below.trans ?_ (Below.mono (by assumption) (by first | omega | (simp; done) | (simp; omega)))))⟩
  · have hlong' : ¬ (1000 : Int) < l.length := by omega
    obtain ⟨S, E, hE⟩ := encV_form a b c
    obtain ⟨X, Y, Z, D, hD⟩ := decV_form l
    have HE := Lib.hid hE
    have HD := Lib.hid hD
    clear hE hD
    have hq := eqH_same X Y Z
    go_enter Try.func3, Try.ntmps3
    go_wp2_with fail
    refine (encode_any a b c _).mono ?_
    rintro e w1 ⟨rfl, hb1⟩; have hz1 := hb1.size; (try simp only [World.size_alloc] at hz1)
    rw [HE.out]
    have b0 := (hb1.block w.heap.size (by first | omega | (simp; done) | (simp; omega))).trans (heap_alloc2_old _ _ _)
    have b1 := (hb1.block (w.heap.size + 1) (by first | omega | (simp; done) | (simp; omega))).trans (heap_alloc2_new _ _ _)
    have hB1 : Below w.heap.size w w1 := by (repeat (first | exact Below.refl _ _ | refine Below.setCell ?_ (by first | omega | (simp; done) | (simp; omega)) _ | refine Below.alloc ?_ (by first | omega | (simp; done) | (simp; omega)) _ | refine Below.drew ?_ | refine below_drewN ?_ _ | refine Below.trans ?_ (Below.mono (by assumption) (by first | omega | (simp; done) | (simp; omega)))))
    clear hb1
    obtain ⟨c0, c1, c2, -, -, -, -⟩ := blk3 b0
    have B0 := Lib.hid b0
    have B1 := Lib.hid b1
    clear b0 b1
    go_wp2_with fail
    refine (rencode_any a b c _).mono ?_
    rintro e w2 ⟨rfl, hb2⟩; have hz2 := hb2.size; (try simp only [World.size_alloc] at hz2)
    rw [HE.out]
    have b0 := (hb2.block w.heap.size (by omega)).trans B0.out
    have b1 := (hb2.block (w.heap.size + 1) (by omega)).trans B1.out
    have hB2 : Below w.heap.size w w2 := by (repeat (first | exact Below.refl _ _ | refine Below.setCell ?_ (by first | omega | (simp; done) | (simp; omega)) _ | refine Below.alloc ?_ (by first | omega | (simp; done) | (simp; omega)) _ | refine Below.drew ?_ | refine below_drewN ?_ _ | refine Below.trans ?_ (Below.mono (by assumption) (by first | omega | (simp; done) | (simp; omega)))))
    clear hb2 hB1 B0 B1 c0 c1 c2
    have B0 := Lib.hid b0
    have B1 := Lib.hid b1
    clear b0 b1
    go_wp2_with fail
    refine (decode_any l (by omega) _).mono ?_
    rintro e w3 ⟨rfl, hb3⟩; have hz3 := hb3.size; (try simp only [World.size_alloc] at hz3)
    rw [HD.out]
    have b0 := (hb3.block w.heap.size (by omega)).trans B0.out
    have b1 := (hb3.block (w.heap.size + 1) (by omega)).trans B1.out
    have hB3 : Below w.heap.size w w3 := by (repeat (first | exact Below.refl _ _ | refine Below.setCell ?_ (by first | omega | (simp; done) | (simp; omega)) _ | refine Below.alloc ?_ (by first | omega | (simp; done) | (simp; omega)) _ | refine Below.drew ?_ | refine below_drewN ?_ _ | refine Below.trans ?_ (Below.mono (by assumption) (by first | omega | (simp; done) | (simp; omega)))))
    clear hb3 hB2 B0 B1
    have B0 := Lib.hid b0
    have B1 := Lib.hid b1
    clear b0 b1
    go_wp2_with fail
    refine (rdecode_any l (by omega) _).mono ?_
    rintro e w4 ⟨rfl, hb4⟩; have hz4 := hb4.size; (try simp only [World.size_alloc] at hz4)
    rw [HD.out]
    have b0 := (hb4.block w.heap.size (by first | omega | (simp; done) | (simp; omega))).trans ((Below.heap_alloc _ _ _ (by omega)).trans B0.out)
    have b1 := (hb4.block (w.heap.size + 1) (by first | omega | (simp; done) | (simp; omega))).trans ((Below.heap_alloc _ _ _ (by omega)).trans B1.out)
    have b2 := (hb4.block w3.heap.size (by first | omega | (simp; done) | (simp; omega))).trans (heap_alloc_last _ _)
    have hB4 : Below w.heap.size w w4 := by (repeat (first | exact Below.refl _ _ | refine Below.setCell ?_ (by first | omega | (simp; done) | (simp; omega)) _ | refine Below.alloc ?_ (by first | omega | (simp; done) | (simp; omega)) _ | refine Below.drew ?_ | refine below_drewN ?_ _ | refine Below.trans ?_ (Below.mono (by assumption) (by first | omega | (simp; done) | (simp; omega)))))
    clear hb4 hB3 B0 B1
    have B0 := Lib.hid b0
    have B1 := Lib.hid b1
    have B2 := Lib.hid b2
    clear b0 b1 b2
    go_wp2_with fail
    have b3 := heap_alloc_last w4 (.cells #[.int .i64 X, .int .i64 Y, .int .i64 Z] 23)
    have b0 := (Below.heap_alloc w4 (.cells #[.int .i64 X, .int .i64 Y, .int .i64 Z] 23) w.heap.size (by omega)).trans B0.out
    have b1 := (Below.heap_alloc w4 (.cells #[.int .i64 X, .int .i64 Y, .int .i64 Z] 23) (w.heap.size + 1) (by omega)).trans B1.out
    have b2 := (Below.heap_alloc w4 (.cells #[.int .i64 X, .int .i64 Y, .int .i64 Z] 23) w3.heap.size (by omega)).trans B2.out
    have hz5 : (w4.alloc (.cells #[.int .i64 X, .int .i64 Y, .int .i64 Z] 23)).heap.size = w4.heap.size + 1 := by simp
    have hB5 : Below w.heap.size w (w4.alloc (.cells #[.int .i64 X, .int .i64 Y, .int .i64 Z] 23)) := by (repeat (first | exact Below.refl _ _ | refine Below.setCell ?_ (by first | omega | (simp; done) | (simp; omega)) _ | refine Below.alloc ?_ (by first | omega | (simp; done) | (simp; omega)) _ | refine Below.drew ?_ | refine below_drewN ?_ _ | refine Below.trans ?_ (Below.mono (by assumption) (by first | omega | (simp; done) | (simp; omega)))))
    generalize w4.alloc (.cells #[.int .i64 X, .int .i64 Y, .int .i64 Z] 23) = w5 at *
    obtain ⟨c00, c01, c02, -, -, -, -⟩ := blk3 b0
    obtain ⟨c10, c11, c12, -, -, -, -⟩ := blk3 b1
    obtain ⟨c20, c21, c22, -, -, -, -⟩ := blk3 b2
    obtain ⟨c30, c31, c32, -, -, -, -⟩ := blk3 b3
    have ex := fun (e : ExtOf (w4.heap.size + 1) w5) k o (h : k < w4.heap.size + 1) => ExtOf.cellB e k o h
    have g0 : w.heap.size < w4.heap.size + 1 := by omega
    have g1 : w.heap.size + 1 < w4.heap.size + 1 := by omega
    have g2 : w3.heap.size < w4.heap.size + 1 := by omega
    have hz5' : w4.heap.size + 1 ≤ w5.heap.size := by omega
    clear B0 B1 B2 b0 b1 b2 b3 HE HD hB4
    refine wp_region_ext (w4.heap.size + 1) (by kernel_rfl) (by kernel_rfl) ?_
    repeat (go_big_quiet_step (first | (go_at_call 14; exact ext_of hz5' (may_any _ _ _ _)) | (go_at_call 15; exact ext_of hz5' (rmay_any _ _ _ _)) | (go_at_call 16; exact ext_of hz5' (less_any _ _ _ _ _ _ _)) | (go_at_call 17; exact ext_of hz5' (rless_any _ _ _ _ _ _ _)) | (go_at_call 9; exact ext_of hz5' (awake_any _))))
    refine wpQuiet_nil ?_
    rintro w6 ⟨⟨_, hb6⟩, rfl⟩
    go_wp2
    go_ret
    exact ⟨rfl, by (repeat (first | exact Below.refl _ _ | refine Below.setCell ?_ (by first | omega | (simp; done) | (simp; omega)) _ | refine Below.alloc ?_ (by first | omega | (simp; done) | (simp; omega)) _ | refine Below.drew ?_ | refine below_drewN ?_ _ | refine Below.trans ?_ (Below.mono (by assumption) (by first | omega | (simp; done) | (simp; omega)))))⟩

theorem own : ownKnob Try.prog.godebug = none := by kernel_rfl
theorem laidOut : laidOutB Try.prog = true := by kernel_rfl

set_option maxRecDepth 100000 in
theorem lifted (os : Os) (started : os.Started) (H : Type) (enc : TypeId × Value → H) :
    ReturnsInHanded {} Try.checked os 3 .any (Rows.handleBytesSpec.pre6 enc Try.prog Try.f3 Rows.handleBytesRow.domain false) (Rows.handleBytesSpec.post enc Try.prog Try.f3 false true false false) := by
  refine returnsInHanded_of_change (C := Try.checked) own started (by kernel_rfl) Try.func3
    (ChangeSpec.witness6 (enc := enc) (C := Try.checked) false ⟨#[], #[.agg #[.int .i64 0, .int .i64 0, .int .i64 0], .agg #[.int .i64 0, .int .i64 0, .int .i64 0], .string ⟨#[]⟩], []⟩ 8 (by kernel_rfl) (by kernel_rfl) (by kernel_rfl) (by kernel_rfl)) ?_
  intro W base args ds gs before hval0 hW hcnd _
  have hval : ∀ (j : Nat) t v, Try.f3.params[j]? = some t → args[j]? = some v → Value.okWide Try.prog W .any base t v := hval0
  have hW' := hW
  obtain ⟨p, q, hA0, hV, rfl, hfz, hnd⟩ := hW
  have hA : DataW.TrodAll enc Try.prog W 0 (fun _ => true) true Try.f3.params.toList args.toList ds p := hA0
  rw [Try.params3] at hA hval
  obtain ⟨v0, vs0, d0, ds0, p0, q0, hargs, rfl, rfl, h0, r0⟩ := trodAll_cons hA
  obtain ⟨v1, vs1, d1, ds1, p1, q1, rfl, rfl, rfl, h1, r1⟩ := trodAll_cons r0
  obtain ⟨v2, vs2, d2, ds2, p2, q2, rfl, rfl, rfl, h2, r2⟩ := trodAll_cons r1
  obtain ⟨rfl, rfl, rfl⟩ := trodAll_nil r2
  obtain rfl : args = #[v0, v1, v2] := by cases args; simp_all
  obtain ⟨rfl, rfl⟩ := trodVars_none hV
  have k0 := h0
  have lt0 : ∀ x ∈ p0, x.block < W.heap.size := by obtain ⟨m, hm⟩ := k0; exact DataW.trod_lt m _ _ _ hm
  have k1 := h1
  have lt1 : ∀ x ∈ p1, x.block < W.heap.size := by obtain ⟨m, hm⟩ := k1; exact DataW.trod_lt m _ _ _ hm
  have k2 := h2
  have lt2 : ∀ x ∈ p2, x.block < W.heap.size := by obtain ⟨m, hm⟩ := k2; exact DataW.trod_lt m _ _ _ hm
  obtain ⟨a0, b0, c0, rfl, wa0, wb0, wc0⟩ := open_handle Try.underlying23 Try.underlying3 (by kernel_rfl) (by kernel_rfl) (hval 0 _ v0 rfl rfl) h0
  obtain ⟨a1, b1, c1, rfl, wa1, wb1, wc1⟩ := open_handle Try.underlying23 Try.underlying3 (by kernel_rfl) (by kernel_rfl) (hval 1 _ v1 rfl rfl) h1
  obtain ⟨l2, rfl, wl2⟩ := open_str Try.underlying9 (hval 2 _ v2 rfl rfl) h2
  refine (walk a0 b0 c0 wa0 wb0 wc0 a1 b1 c1 wa1 wb1 wc1 l2 wl2 W).mono fun e W' ⟨he, bel⟩ => ?_
  subst he
  exact ⟨_, rfl, _, _, _, [], _, [], hW', trodAll_mk1 (shut_bool Try.underlying4 _), (trodAll_cons_mk (Below.trod laidOut (by kernel_rfl) (of_decide_eq_true (by kernel_rfl)) k0 bel lt0) (trodAll_cons_mk (Below.trod laidOut (by kernel_rfl) (of_decide_eq_true (by kernel_rfl)) k1 bel lt1) (trodAll_cons_mk (Below.trod laidOut (by kernel_rfl) (of_decide_eq_true (by kernel_rfl)) k2 bel lt2) trodAll_mk0))), rfl, bel.frame _, fun h => by cases h⟩

theorem proved : Rows.HandleBytesSaid :=
  OpenClaim.holds_of_wide 3 Try.f3 rfl rfl rfl rfl rfl rfl rfl ⟨rfl, rfl, rfl, rfl, rfl⟩ rfl rfl rfl rfl rfl (by kernel_rfl) Try.func3 (by kernel_rfl)
    (of_decide_eq_true (by kernel_rfl)) (by unfold Func.isWrapper; first | (rw [if_pos (by decide +kernel)]; kernel_rfl) | (rw [if_neg (by decide +kernel)]; exact ⟨rfl, rfl⟩))
    (fun os started H enc _ => lifted os started H enc)
end Go.Proofs.Yteiaihjdcdagoaa.handleBytes
