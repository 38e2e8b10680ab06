/- Proved: RingBlocks returns true whatever root, block and number it is called with, and each argument reads behind the call as before. No condition. -/
import Derived.Test.YtobcfocbglkicaaRgLift
import Derived.Deep.DeepCutAuto
set_option linter.unusedVariables false
set_option maxRecDepth 100000
set_option maxRecDepth 100000
namespace Go.Proofs.Ytobcfocbglkicaa.ringBlocks
open Go.RowKit Go.ChangeShapes Go.WideShapes Go.ChangeAt Go.Deep Go.Proofs.Ytobcfocbglkicaa
attribute [local go_sem ↓] neq_blk eql_blk eql_rroot

set_option maxHeartbeats 16000000 in
theorem walk0 (t : Int) (l : List UInt8) (B : List UInt8) (n : Int) (w : World) (hl : l.length ≤ maxLen) (hB : B.length = 512) :
    Calls Try.prog 3 #[.agg #[.int .i64 t, .string (str l)], .agg (bvs B).toArray, .int .i64 n] w fun e w' => e = .returned (.bool true) ∧ Below w.heap.size w w' := by
  have hl0 := hl
  unfold maxLen at hl
  have z1 := str_size l
  have hX : Below w.heap.size w ((w.alloc (.cells #[.int .i64 t, .string (str l)] 23)).alloc (.cells (bvs B).toArray 25)) := by (repeat' (first | (with_reducible assumption) | (with_reducible exact Below.refl _ _) | (with_reducible refine below_sc ?_ ?_) | ((with_reducible show (_ : Nat) ≤ _); omega) | refine Below.setCell ?_ (by first | omega | (simp; done) | (simp; omega)) _ | refine Below.alloc ?_ (by first | omega | (simp; done) | (simp; omega)) _ | refine Below.drew ?_ | refine below_drewN ?_ _ | refine Below.trans ?_ (Below.mono (by assumption) (by first | omega | (simp; done) | (simp; omega)))))
  by_cases g1 : 3000 < l.length
  · go_enter Try.func3, Try.ntmps3
    go_wp2_with fail
    go_ret
    exact ⟨rfl, hX⟩
  have b3 := Lib.hid (heap_alloc2_old w (.cells #[.int .i64 t, .string (str l)] 23) (.cells (bvs B).toArray 25))
  have b4 := Lib.hid (heap_alloc2_new w (.cells #[.int .i64 t, .string (str l)] 23) (.cells (bvs B).toArray 25))
  have k1 := fun w => rgSeal_any t l w hl0
  have k2 := fun w => rrgSeal_any t l w hl0
  have k3 := fun w => rgOpen_any B hB w
  have k4 := fun w => rrgOpen_any B hB w
  have k5 := fun w => rgPlace_any n w
  have k6 := fun w => rrgPlace_any n w
  obtain ⟨R1, hR1⟩ : ∃ R, R = rkS t l := ⟨_, rfl⟩
  obtain ⟨R2, hR2⟩ : ∃ R, R = rkO B := ⟨_, rfl⟩
  obtain ⟨P, hP⟩ : ∃ P, P = placeR n := ⟨_, rfl⟩
  have l1 : R1.1.length = 512 := by rw [hR1]; exact rkS_length
  rw [← hR1] at k1 k2
  rw [← hR2] at k3 k4
  rw [← hP] at k5 k6
  clear hR1 hR2 hP hl0
  obtain ⟨S, E1⟩ := R1
  obtain ⟨⟨vt, vl⟩, ve⟩ := R2
  have hb : ∀ r : List UInt8 × Int, bkV r = .tuple #[.agg (bvs r.1).toArray, .int .i64 r.2] := fun _ => rfl
  have hr : ∀ (a : Int) (b : List UInt8) (e : Int), roV (⟨a, b⟩, e) = .tuple #[.agg #[.int .i64 a, .string (str b)], .int .i64 e] := fun _ _ _ => rfl
  simp only [hb, hr] at k1 k2 k3 k4
  simp only at l1
  have K1 := Lib.hid k1
  have K2 := Lib.hid k2
  have K3 := Lib.hid k3
  have K4 := Lib.hid k4
  have K5 := Lib.hid k5
  have K6 := Lib.hid k6
  have kr := fun w => root_any vt vl w
  have KR := Lib.hid kr
  clear k1 k2 k3 k4 k5 k6 kr hb hr
  have q : eqB S S = true := by simp [eqB]
  have q2 : eqRo vt vl vt vl = true := by simp [eqRo]
  go_enter Try.func3, Try.ntmps3
  go_upto_region 1 with fail
  generalize (w.alloc (.cells #[.int .i64 t, .string (str l)] 23)).alloc (.cells (bvs B).toArray 25) = W at *
  obtain ⟨c0, c1, -, -, ltb⟩ := blk2 b3.out
  go_wp2_with fail
  refine (K1.out _).mono ?_
  rintro e w1 ⟨rfl, hb1⟩; have hz1 := hb1.size; (try simp only [World.size_alloc] at hz1)
  have st := st_blk (l := S) (heap_alloc_last w1 (.cells (bvs zB).toArray 25)) zB_length l1
  rw [World.setRow_alloc_new] at st
  have St := Lib.hid st
  have x1 : Ext W (w1.alloc (.cells (bvs S).toArray 25)) := Ext.trans hb1 (ext_alloc w1 _)
  have b7 := Lib.hid (heap_alloc_last w1 (.cells (bvs S).toArray 25))
  have b3' := Lib.hid ((Below.block x1 w.heap.size (Array.getElem?_eq_some_iff.1 b3.out).1).trans b3.out)
  have b4' := Lib.hid ((Below.block x1 (w.heap.size + 1) (Array.getElem?_eq_some_iff.1 b4.out).1).trans b4.out)
  have X1 := hX.trans (Below.mono x1 hX.size)
  clear st hb1 x1 hX b3 b4 c0 c1 ltb K1
  go_upto_region 4 with (first | (refine wpList_al rfl 25 rfl alloc_blk ?_; simp only [Act.put]) | (refine wpList_st rfl 25 (.tmp 7) (.tmp 26) rfl St.out ?_; simp only [Act.put]))
  try simp only [List.setIfInBounds_toArray, List.set_cons_zero, List.set_cons_succ]
  generalize w1.alloc (.cells (bvs S).toArray 25) = V1 at *
  generalize w1.heap.size = g7 at *
  clear St
  obtain ⟨c0, c1, -, -, ltb⟩ := blk2 b3'.out
  go_wp2_with fail
  refine (K2.out _).mono ?_
  rintro e w2 ⟨rfl, hb2⟩; have hz2 := hb2.size; (try simp only [World.size_alloc] at hz2)
  have st := st_blk (l := S) (heap_alloc_last w2 (.cells (bvs zB).toArray 25)) zB_length l1
  rw [World.setRow_alloc_new] at st
  have St := Lib.hid st
  have x2 : Ext V1 (w2.alloc (.cells (bvs S).toArray 25)) := Ext.trans hb2 (ext_alloc w2 _)
  have b9 := Lib.hid (heap_alloc_last w2 (.cells (bvs S).toArray 25))
  have b7' := Lib.hid ((Below.block x2 g7 (Array.getElem?_eq_some_iff.1 b7.out).1).trans b7.out)
  have b4 := Lib.hid ((Below.block x2 (w.heap.size + 1) (Array.getElem?_eq_some_iff.1 b4'.out).1).trans b4'.out)
  have X2 := X1.trans (Below.mono x2 X1.size)
  have ld := Lib.hid (ld_blk b4.out hB)
  clear st hb2 x2 X1 b3' b4' c0 c1 ltb K2 b7
  go_upto_region 5 with (first | (refine wpList_al rfl 25 rfl alloc_blk ?_; simp only [Act.put]) | (refine wpList_st rfl 25 (.tmp 9) (.tmp 31) rfl St.out ?_; simp only [Act.put]))
  try simp only [List.setIfInBounds_toArray, List.set_cons_zero, List.set_cons_succ]
  generalize w2.alloc (.cells (bvs S).toArray 25) = V2 at *
  generalize w2.heap.size = g9 at *
  clear St
  go_wp2_with (refine wpList_ld rfl 25 (.tmp 4) rfl ld.out ?_; simp only [Act.put])
  refine (K3.out _).mono ?_
  rintro e w3 ⟨rfl, hb3⟩; have hz3 := hb3.size; (try simp only [World.size_alloc] at hz3)
  have x3 : Ext V2 (w3.alloc (.cells #[.int .i64 vt, .string (str vl)] 29)) := Ext.trans hb3 (ext_alloc w3 _)
  have b11 := Lib.hid (heap_alloc_last w3 (.cells #[.int .i64 vt, .string (str vl)] 29))
  have b7 := Lib.hid ((Below.block x3 g7 (Array.getElem?_eq_some_iff.1 b7'.out).1).trans b7'.out)
  have b9' := Lib.hid ((Below.block x3 g9 (Array.getElem?_eq_some_iff.1 b9.out).1).trans b9.out)
  have b4' := (Below.block x3 (w.heap.size + 1) (Array.getElem?_eq_some_iff.1 b4.out).1).trans b4.out
  have X3 := X2.trans (Below.mono x3 X2.size)
  clear ld
  have ld := Lib.hid (ld_blk b4' hB)
  clear hb3 x3 X2 b4 b4' b7' b9 K3
  go_upto_region 6 with fail
  generalize w3.alloc (.cells #[.int .i64 vt, .string (str vl)] 29) = V3 at *
  generalize w3.heap.size = g11 at *
  go_wp2_with (refine wpList_ld rfl 25 (.tmp 4) rfl ld.out ?_; simp only [Act.put])
  refine (K4.out _).mono ?_
  rintro e w4 ⟨rfl, hb4⟩; have hz4 := hb4.size; (try simp only [World.size_alloc] at hz4)
  have x4 : Ext V3 (w4.alloc (.cells #[.int .i64 vt, .string (str vl)] 23)) := Ext.trans hb4 (ext_alloc w4 _)
  have b13 := Lib.hid (heap_alloc_last w4 (.cells #[.int .i64 vt, .string (str vl)] 23))
  have b7' := Lib.hid ((Below.block x4 g7 (Array.getElem?_eq_some_iff.1 b7.out).1).trans b7.out)
  have b9 := Lib.hid ((Below.block x4 g9 (Array.getElem?_eq_some_iff.1 b9'.out).1).trans b9'.out)
  have b11' := Lib.hid ((Below.block x4 g11 (Array.getElem?_eq_some_iff.1 b11.out).1).trans b11.out)
  have X4 := X3.trans (Below.mono x4 X3.size)
  clear hb4 x4 X3 ld b7 b9' b11 K4
  go_upto_region 7 with fail
  generalize w4.alloc (.cells #[.int .i64 vt, .string (str vl)] 23) = V4 at *
  generalize w4.heap.size = g13 at *
  obtain ⟨c0, c1, -, -, lt11⟩ := blk2 b11'.out
  obtain ⟨d0, d1, -, -, lt13⟩ := blk2 b13.out
  have ex := fun (e : ExtOf V4.heap.size V4) k o (h : k < V4.heap.size) => ExtOf.cellB e k o h
  have Hld7 := Lib.hid (show ∀ w', (∃ e : ExtOf V4.heap.size V4, w' = e.val) → (Instr.loadAt 25 (.pointer (some ⟨g7, 0, none⟩))).run Try.prog w' = .ok (.agg (bvs S).toArray) w' by
    rintro _ ⟨e, rfl⟩
    exact ld_blk ((e.ok.block _ (Array.getElem?_eq_some_iff.1 b7'.out).1).trans b7'.out) l1)
  have Hld9 := Lib.hid (show ∀ w', (∃ e : ExtOf V4.heap.size V4, w' = e.val) → (Instr.loadAt 25 (.pointer (some ⟨g9, 0, none⟩))).run Try.prog w' = .ok (.agg (bvs S).toArray) w' by
    rintro _ ⟨e, rfl⟩
    exact ld_blk ((e.ok.block _ (Array.getElem?_eq_some_iff.1 b9.out).1).trans b9.out) l1)
  refine wp_region_ext V4.heap.size (by kernel_rfl) (by kernel_rfl) ?_
  try simp only [List.append_eq, List.cons_append, List.nil_append]
  repeat (first | (go_big_quiet_want; refine quiet_ld 25 (.tmp 7) rfl Hld7.out ?_; go_simp; go_big_quiet_on) | (go_big_quiet_want; refine quiet_ld 25 (.tmp 9) rfl Hld9.out ?_; go_simp; go_big_quiet_on) | go_big_quiet_step (first | (go_at_call 19; exact ext_of (Nat.le_refl _) (KR.out _)) | (go_at_call 20; exact ext_of (Nat.le_refl _) (K5.out _)) | (go_at_call 21; exact ext_of (Nat.le_refl _) (K6.out _))))
  refine wpQuiet_nil ?_
  rintro w6 ⟨⟨_, hd⟩, rfl⟩
  go_wp2_with fail
  go_ret
  exact ⟨rfl, X4.trans (Below.mono hd X4.size)⟩

theorem walk (r : RoT) (wr : r.Ok) (b : BkT) (wb : b.Ok) (n : Int) (wn : (Lit.int .i64 n).wf = true) (w : World) :
    Calls Try.prog 3 #[r.v, b.v, .int .i64 n] w fun e w' => e = .returned (.bool true) ∧ Below w.heap.size w w' :=
  walk0 r.t r.l b.l n w wr.l wb.l

theorem own : ownKnob Try.prog.godebug = none := by kernel_rfl
theorem laidOut : laidOutB Try.prog = true := by kernel_rfl

set_option maxRecDepth 100000 in
theorem lifted (os : Os) (started : os.Started) (H : Type) (enc : TypeId × Value → H) :
    ReturnsInHanded {} Try.checked os 3 .any (Rows.ringBlocksSpec.pre6 enc Try.prog Try.f3 Rows.ringBlocksRow.domain false) (Rows.ringBlocksSpec.post enc Try.prog Try.f3 false true false false) := by
  refine returnsInHanded_of_change (C := Try.checked) own started (by kernel_rfl) Try.func3
    (ChangeSpec.witness6 (enc := enc) (C := Try.checked) false ⟨#[], #[.agg #[.int .i64 0, .string ⟨#[]⟩], .agg (Array.replicate 512 (.int .u8 0)), .int .i64 0], []⟩ 8 (by kernel_rfl) (by kernel_rfl) (by kernel_rfl) (by kernel_rfl)) ?_
  intro W base args ds gs before hval0 hW hcnd _
  have hval : ∀ (j : Nat) t v, Try.f3.params[j]? = some t → args[j]? = some v → Value.okWide Try.prog W .any base t v := hval0
  have hW' := hW
  obtain ⟨p, q, hA0, hV, rfl, hfz, hnd⟩ := hW
  have hA : DataW.TrodAll enc Try.prog W 0 (fun _ => true) true Try.f3.params.toList args.toList ds p := hA0
  rw [Try.params3] at hA hval
  obtain ⟨v0, vs0, d0, ds0, p0, q0, hargs, rfl, rfl, h0, r0⟩ := trodAll_cons hA
  obtain ⟨v1, vs1, d1, ds1, p1, q1, rfl, rfl, rfl, h1, r1⟩ := trodAll_cons r0
  obtain ⟨v2, vs2, d2, ds2, p2, q2, rfl, rfl, rfl, h2, r2⟩ := trodAll_cons r1
  obtain ⟨rfl, rfl, rfl⟩ := trodAll_nil r2
  obtain rfl : args = #[v0, v1, v2] := by cases args; simp_all
  obtain ⟨rfl, rfl⟩ := trodVars_none hV
  have k0 := h0
  have lt0 : ∀ x ∈ p0, x.block < W.heap.size := by obtain ⟨m, hm⟩ := k0; exact DataW.trod_lt m _ _ _ hm
  have k1 := h1
  have lt1 : ∀ x ∈ p1, x.block < W.heap.size := by obtain ⟨m, hm⟩ := k1; exact DataW.trod_lt m _ _ _ hm
  have k2 := h2
  have lt2 : ∀ x ∈ p2, x.block < W.heap.size := by obtain ⟨m, hm⟩ := k2; exact DataW.trod_lt m _ _ _ hm
  obtain ⟨x0, rfl, w0⟩ := open_root (hval 0 _ v0 rfl rfl) h0
  obtain ⟨x1, rfl, w1⟩ := open_blk (hval 1 _ v1 rfl rfl) h1
  obtain ⟨a2, rfl, -, -, wa2⟩ := open_int Try.underlying3 (hval 2 _ v2 rfl rfl) h2
  refine (walk x0 w0 x1 w1 a2 wa2 W).mono fun e W' ⟨he, bel⟩ => ?_
  subst he
  exact ⟨_, rfl, _, _, _, [], _, [], hW', trodAll_mk1 (shut_bool Try.underlying4 _), (trodAll_cons_mk (Below.trod laidOut (by kernel_rfl) (of_decide_eq_true (by kernel_rfl)) k0 bel lt0) (trodAll_cons_mk (Below.trod laidOut (by kernel_rfl) (of_decide_eq_true (by kernel_rfl)) k1 bel lt1) (trodAll_cons_mk (Below.trod laidOut (by kernel_rfl) (of_decide_eq_true (by kernel_rfl)) k2 bel lt2) trodAll_mk0))), rfl, bel.frame _, fun h => by cases h⟩

theorem proved : Rows.RingBlocksSaid :=
  OpenClaim.holds_of_wide 3 Try.f3 rfl rfl rfl rfl rfl rfl rfl ⟨rfl, rfl, rfl, rfl, rfl⟩ rfl rfl rfl rfl rfl (by kernel_rfl) Try.func3 (by kernel_rfl)
    (of_decide_eq_true (by kernel_rfl)) (by unfold Func.isWrapper; first | (rw [if_pos (by decide +kernel)]; kernel_rfl) | (rw [if_neg (by decide +kernel)]; exact ⟨rfl, rfl⟩))
    (fun os started H enc _ => lifted os started H enc)
end Go.Proofs.Ytobcfocbglkicaa.ringBlocks
