/- The claim ArgsWords: the walk of its law, and the statement. -/
import Derived.Test.YteahlnoonmfjhaaAgK
import Derived.Test.YteahlnoonmfjhaaAfD
import Derived.Test.YteahlnoonmfjhaaAfE
set_option linter.unusedVariables false
set_option maxRecDepth 100000
namespace Go.Proofs.Yteahlnoonmfjhaa.argsWords
open Go.RowKit Go.ChangeShapes Go.WideShapes Go.ChangeAt Go.Deep Go.Proofs.Yteahlnoonmfjhaa

theorem eql_same (a : AgT) (w : World) : (binOp .eql 35 (.agg (agC a).toArray) (.agg (agC a).toArray)).run Try.prog w = .ok (.bool true) w := by
  unfold agC
  go_simp
theorem ag_okl {a : AgT} (h : a.Okl) (h1 : a.name.length ≤ 20000) (h2 : a.other.length ≤ 20000) (h3 : a.text.length ≤ 20000) : a.Ok := ⟨h.h, h.t, h1, h2, h3, h.at_, h.n, h.mode, h.size, h.stable, h.guard, h.verf⟩
theorem new_ag (w : World) (A : AgT) : (Instr.storeAt 35 (.pointer (some ⟨w.heap.size, 0, none⟩)) (.agg (agC A).toArray)).run Try.prog (w.alloc (.cells #[.int .i64 0, .int .i64 0, .int .i64 0, .int .i64 0, .int .i64 0, .int .i64 0, .string ⟨#[]⟩, .string ⟨#[]⟩, .string ⟨#[]⟩, .int .i64 0, .int .i64 0, .int .i64 0, .int .i64 0, .int .i64 0, .int .i64 0, .int .u64 0] 35)) = .ok () (w.alloc (.cells (agC A).toArray 35)) := by
  have h : (w.alloc (.cells (agC ag0).toArray 35)).heap[w.heap.size]? = some (.cells (agC ag0).toArray 35 (0, 0)) := heap_alloc_last w _
  have := storeAg (a := A) h
  rw [World.setRow_alloc_new] at this
  exact this
attribute [local go_sem ↓] eql_same
set_option maxHeartbeats 8000000 in
theorem walk (p : Int) (hp : (Lit.int .i64 p).wf = true) (x : AgsT) (hx : x.Ok) (s : List UInt8) (hsl : s.length ≤ maxLen) (w : World) :
    Calls Try.prog 4 #[.int .i64 p, x.v, .string (str s)] w fun e w' => e = .returned (.bool true) ∧ Below w.heap.size w w' := by
  obtain ⟨a⟩ := x
  unfold AgsT.v
  simp only
  replace hx : a.Okl := hx
  have hI := i64_wf hp
  have ss := str_size s
  unfold maxLen at hsl
  have KL := Lib.hid (fun w : World => long_any' a rs0 (.slice none 0 0) w RR.nil ⟨hx.name, hx.other, hx.text⟩ (Nat.zero_le _) (Nat.zero_le _) (fun y h => by cases h))
  have hx1 := extAl w (.cells (agC a).toArray 35)
  have hb1 := heap_alloc_last w (.cells (agC a).toArray 35)
  have HXX := Lib.hid hx
  have HI := Lib.hid hI
  clear hx hI
  go_enter Try.func4, Try.ntmps4
  go_upto_region 1 with fail
  generalize w.alloc (.cells (agC a).toArray 35) = W1 at *
  have HL1 := Lib.hid (ldAg hb1)
  have HB1 := Lib.hid hb1
  have HX1 := Lib.hid hx1
  clear hb1 hx1
  go_wp2_with (refine wpList_ld rfl 35 (.tmp 4) rfl HL1.out ?_; simp only [Act.put])
  refine (KL.out _).mono ?_
  rintro e w2 ⟨B, rfl, hb2, hB⟩
  have HX2 := Lib.hid (Ext.trans HX1.out hb2)
  have HG2 := Lib.hid (Ext.blk hb2 HB1.out)
  clear hb2 KL
  cases B with
  | true =>
    go_wp2_with fail
    go_ret
    exact ⟨rfl, HX2.out⟩
  | false =>
  obtain ⟨h1, h2, h3, -, -⟩ := hB rfl
  by_cases hs : (10000 : Int) < (s.length : Int)
  · clear h1 h2 h3 hB
    go_wp2_with fail
    go_ret
    exact ⟨rfl, HX2.out⟩
  have hok := ag_okl HXX.out (by omega) (by omega) (by omega)
  have KW := Lib.hid (fun w : World => aWrite_any p a w HI.out hok)
  have KV := Lib.hid (fun w : World => rWrite_any p a w HI.out hok)
  have KR := Lib.hid (fun w : World => aRead_any p s w HI.out (by omega))
  have KQ := Lib.hid (fun w : World => rRead_any p s w HI.out (by omega))
  have KC := Lib.hid (fun w : World => aChanges_any p a w)
  have KD := Lib.hid (fun w : World => rChanges_any p a w)
  rw [aW_rW] at KW
  rw [aR_rR] at KR
  generalize rW p a = X at *
  generalize rR p s = Y at *
  generalize chg p a = C at *
  clear h1 h2 h3 hB hok HXX HI
  obtain ⟨X1, X2⟩ := X
  obtain ⟨Y1, Y2⟩ := Y
  generalize str X1 = T at *
  simp only at KW KV KR KQ
  have HL2 := Lib.hid (ldAg HG2.out)
  clear HL1 HB1 HX1
  go_wp2_with (refine wpList_ld rfl 35 (.tmp 4) rfl HL2.out ?_; simp only [Act.put])
  refine (KW.out _).mono ?_
  rintro e w3 ⟨rfl, k3⟩
  have HG3 := Lib.hid (Ext.blk k3 HG2.out)
  have HX3 := Lib.hid (Ext.trans HX2.out k3)
  have HL3 := Lib.hid (ldAg HG3.out)
  clear HL2 HG2 HX2 k3 KW
  go_wp2_with (refine wpList_ld rfl 35 (.tmp 4) rfl HL3.out ?_; simp only [Act.put])
  refine (KV.out _).mono ?_
  rintro e w4 ⟨rfl, k4⟩
  have HG4 := Lib.hid (Ext.blk k4 HG3.out)
  have HX4 := Lib.hid (Ext.trans HX3.out k4)
  clear HL3 HG3 HX3 k4 KV
  go_wp2_with fail
  refine (KR.out _).mono ?_
  rintro e w5 ⟨rfl, k5⟩
  have HG5 := Lib.hid (Ext.blk k5 HG4.out)
  have HX5 := Lib.hid (Ext.trans HX4.out k5)
  have HN5 := Lib.hid (new_ag w5 Y1)
  have HE6 := Lib.hid (extAl w5 (.cells (agC Y1).toArray 35))
  have HA6 := Lib.hid (heap_alloc_last w5 (.cells (agC Y1).toArray 35))
  clear HG4 HX4 k5 KR
  go_wp2_with (refine wpList_st rfl 35 (.tmp 11) (.tmp 39) rfl HN5.out ?_; simp only [Act.put])
  generalize w5.alloc (.cells (agC Y1).toArray 35) = w6 at *
  have HG6 := Lib.hid (Ext.blk HE6.out HG5.out)
  have HX6 := Lib.hid (Ext.trans HX5.out HE6.out)
  clear HG5 HX5 HE6 HN5
  generalize w5.heap.size = g6 at *
  refine (KQ.out _).mono ?_
  rintro e w7 ⟨rfl, k7⟩
  have HG7 := Lib.hid (Ext.blk k7 HG6.out)
  have HA7 := Lib.hid (Ext.blk k7 HA6.out)
  have HX7 := Lib.hid (Ext.trans HX6.out k7)
  have HN7 := Lib.hid (new_ag w7 Y1)
  have HE8 := Lib.hid (extAl w7 (.cells (agC Y1).toArray 35))
  have HB8 := Lib.hid (heap_alloc_last w7 (.cells (agC Y1).toArray 35))
  clear HG6 HX6 k7 KQ HA6
  go_wp2_with (refine wpList_st rfl 35 (.tmp 13) (.tmp 45) rfl HN7.out ?_; simp only [Act.put])
  generalize w7.alloc (.cells (agC Y1).toArray 35) = w8 at *
  have HG8 := Lib.hid (Ext.blk HE8.out HG7.out)
  have HA8 := Lib.hid (Ext.blk HE8.out HA7.out)
  have HX8 := Lib.hid (Ext.trans HX7.out HE8.out)
  clear HG7 HX7 HE8 HN7 HA7
  generalize w7.heap.size = g8 at *
  have M4 := Lib.hid (show ∀ w', (∃ e : ExtOf w8.heap.size w8, w' = e.val) → (Instr.loadAt 35 (.pointer (some ⟨w.heap.size, 0, none⟩))).run Try.prog w' = .ok (.agg (agC a).toArray) w' by
    rintro _ ⟨e, rfl⟩
    exact ldAg ((e.ok.block _ (heap_lt HG8.out)).trans HG8.out))
  have M11 := Lib.hid (show ∀ w', (∃ e : ExtOf w8.heap.size w8, w' = e.val) → (Instr.loadAt 35 (.pointer (some ⟨g6, 0, none⟩))).run Try.prog w' = .ok (.agg (agC Y1).toArray) w' by
    rintro _ ⟨e, rfl⟩
    exact ldAg ((e.ok.block _ (heap_lt HA8.out)).trans HA8.out))
  have M13 := Lib.hid (show ∀ w', (∃ e : ExtOf w8.heap.size w8, w' = e.val) → (Instr.loadAt 35 (.pointer (some ⟨g8, 0, none⟩))).run Try.prog w' = .ok (.agg (agC Y1).toArray) w' by
    rintro _ ⟨e, rfl⟩
    exact ldAg ((e.ok.block _ (heap_lt HB8.out)).trans HB8.out))
  refine wp_region_ext w8.heap.size (by kernel_rfl) (by kernel_rfl) ?_
  try simp only [List.append_eq, List.cons_append, List.nil_append]
  repeat (first | (go_big_quiet_want; refine quiet_ld 35 (.tmp 4) rfl M4.out ?_; go_simp; go_big_quiet_on) | (go_big_quiet_want; refine quiet_ld 35 (.tmp 11) rfl M11.out ?_; go_simp; go_big_quiet_on) | (go_big_quiet_want; refine quiet_ld 35 (.tmp 13) rfl M13.out ?_; go_simp; go_big_quiet_on) | go_big_quiet_step (first | (go_at_call 30; exact ext_of (Nat.le_refl _) (KC.out _)) | (go_at_call 31; exact ext_of (Nat.le_refl _) (KD.out _))))
  refine wpQuiet_nil ?_
  rintro w9 ⟨⟨_, hb9⟩, rfl⟩
  go_wp2_with fail
  go_ret
  exact ⟨rfl, Ext.trans HX8.out hb9⟩

theorem own : ownKnob Try.prog.godebug = none := by kernel_rfl
theorem laidOut : laidOutB Try.prog = true := by kernel_rfl

set_option maxRecDepth 100000 in
theorem lifted (os : Os) (started : os.Started) (H : Type) (enc : TypeId × Value → H) :
    ReturnsInHanded {} Try.checked os 4 .any (Rows.argsWordsSpec.pre6 enc Try.prog Try.f4 Rows.argsWordsRow.domain false) (Rows.argsWordsSpec.post enc Try.prog Try.f4 false true false false) := by
  refine returnsInHanded_of_change (C := Try.checked) own started (by kernel_rfl) Try.func4
    (ChangeSpec.witness6 (enc := enc) (C := Try.checked) false ⟨#[], #[.int .i64 0, .agg #[.int .i64 0, .int .i64 0, .int .i64 0, .int .i64 0, .int .i64 0, .int .i64 0, .string ⟨#[]⟩, .string ⟨#[]⟩, .string ⟨#[]⟩, .int .i64 0, .int .i64 0, .int .i64 0, .int .i64 0, .int .i64 0, .int .i64 0, .int .u64 0], .string ⟨#[]⟩], []⟩ 8 (by kernel_rfl) (by kernel_rfl) (by kernel_rfl) (by kernel_rfl)) ?_
  intro W base args ds gs before hval0 hW hcnd _
  have hval : ∀ (j : Nat) t v, Try.f4.params[j]? = some t → args[j]? = some v → Value.okWide Try.prog W .any base t v := hval0
  have hW' := hW
  obtain ⟨p, q, hA0, hV, rfl, hfz, hnd⟩ := hW
  have hA : DataW.TrodAll enc Try.prog W 0 (fun _ => true) true Try.f4.params.toList args.toList ds p := hA0
  rw [Try.params4] at hA hval
  obtain ⟨v0, vs0, d0, ds0, p0, q0, hargs, rfl, rfl, h0, r0⟩ := trodAll_cons hA
  obtain ⟨v1, vs1, d1, ds1, p1, q1, rfl, rfl, rfl, h1, r1⟩ := trodAll_cons r0
  obtain ⟨v2, vs2, d2, ds2, p2, q2, rfl, rfl, rfl, h2, r2⟩ := trodAll_cons r1
  obtain ⟨rfl, rfl, rfl⟩ := trodAll_nil r2
  obtain rfl : args = #[v0, v1, v2] := by cases args; simp_all
  obtain ⟨rfl, rfl⟩ := trodVars_none hV
  have k0 := h0
  have lt0 : ∀ x ∈ p0, x.block < W.heap.size := by obtain ⟨m, hm⟩ := k0; exact DataW.trod_lt m _ _ _ hm
  have k1 := h1
  have lt1 : ∀ x ∈ p1, x.block < W.heap.size := by obtain ⟨m, hm⟩ := k1; exact DataW.trod_lt m _ _ _ hm
  have k2 := h2
  have lt2 : ∀ x ∈ p2, x.block < W.heap.size := by obtain ⟨m, hm⟩ := k2; exact DataW.trod_lt m _ _ _ hm
  obtain ⟨a0, rfl, -, -, wa0⟩ := open_int Try.underlying3 (hval 0 _ v0 rfl rfl) h0
  obtain ⟨x1, rfl, w1⟩ := open_args (hval 1 _ v1 rfl rfl) h1
  obtain ⟨l2, rfl, wl2⟩ := open_str Try.underlying9 (hval 2 _ v2 rfl rfl) h2
  refine (walk a0 wa0 x1 w1 l2 wl2 W).mono fun e W' ⟨he, bel⟩ => ?_
  subst he
  exact ⟨_, rfl, _, _, _, [], _, [], hW', trodAll_mk1 (shut_bool Try.underlying4 _), (trodAll_cons_mk (Below.trod laidOut (by kernel_rfl) (of_decide_eq_true (by kernel_rfl)) k0 bel lt0) (trodAll_cons_mk (Below.trod laidOut (by kernel_rfl) (of_decide_eq_true (by kernel_rfl)) k1 bel lt1) (trodAll_cons_mk (Below.trod laidOut (by kernel_rfl) (of_decide_eq_true (by kernel_rfl)) k2 bel lt2) trodAll_mk0))), rfl, bel.frame _, fun h => by cases h⟩

theorem proved : Rows.ArgsWordsSaid :=
  OpenClaim.holds_of_wide 4 Try.f4 rfl rfl rfl rfl rfl rfl rfl ⟨rfl, rfl, rfl, rfl, rfl⟩ rfl rfl rfl rfl rfl (by kernel_rfl) Try.func4 (by kernel_rfl)
    (of_decide_eq_true (by kernel_rfl)) (by unfold Func.isWrapper; first | (rw [if_pos (by decide +kernel)]; kernel_rfl) | (rw [if_neg (by decide +kernel)]; exact ⟨rfl, rfl⟩))
    (fun os started H enc _ => lifted os started H enc)
end Go.Proofs.Yteahlnoonmfjhaa.argsWords
