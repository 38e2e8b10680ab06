/- Proved: BlockOther returns true whatever kind, birth, body, place and byte it is called with, and each argument reads behind the call as before. No condition. -/
import Derived.Test.YthoeklcgdbbbgaaBlkJ
import Derived.Test.YthoeklcgdbbbgaaLiftB
set_option linter.unusedVariables false
namespace Go.Proofs.Ythoeklcgdbbbgaa.blockOther
open Go.RowKit Go.ChangeShapes Go.WideShapes Go.ChangeAt Go.Deep Go.Proofs.Ythoeklcgdbbbgaa
attribute [local go_sem ↓] neq_blk eql_blk

theorem umod (x m : Int) (h0 : 0 < m) (h1 : m ≤ 4611686018427387904) : ∃ i : Nat, (i : Int) < m ∧ wrap64 ((IntKind.u64.wrap x).tmod m) = i := by
  have hw : 0 ≤ IntKind.u64.wrap x := by simp [IntKind.wrap, IntKind.bits, IntKind.signed]; omega
  rw [Int.tmod_eq_emod_of_nonneg hw]
  have h2 := Int.emod_nonneg (IntKind.u64.wrap x) (show m ≠ 0 by omega)
  have h3 := Int.emod_lt_of_pos (IntKind.u64.wrap x) h0
  obtain ⟨i, hi⟩ := Int.eq_ofNat_of_zero_le h2
  exact ⟨i, by omega, by rw [IntWalk.wrap64_in _ ⟨by omega, by omega⟩, hi]⟩

theorem sc_same' {w : World} {g i : Nat} {T : TypeId} {cs : Array Value} (v : Value) (h : w.heap[g]? = some (.cells cs T (0, 0))) : (w.setCell ⟨g, i, none⟩ v).heap[g]? = some (.cells (cs.setIfInBounds i v) T (0, 0)) := by
  rw [setCell_eq_setRow _ g i _ _ _ _ h]; exact setRow_heap _ _ _ _ _ _ h
theorem sc_other' {w : World} {g g' i : Nat} {T : TypeId} {cs : Array Value} {o : Option Obj} (v : Value) (h : w.heap[g]? = some (.cells cs T (0, 0))) (hne : g' ≠ g) (ho : w.heap[g']? = o) : (w.setCell ⟨g, i, none⟩ v).heap[g']? = o := by
  rw [setCell_eq_setRow _ g i _ _ _ _ h, setRow_other w g g' _ hne]; exact ho
set_option maxHeartbeats 16000000 in
set_option maxRecDepth 100000 in
theorem walk0 (k : UInt8) (b : Int) (s : List UInt8) (at_ : Int) (c : UInt8) (w : World) (hl : s.length ≤ maxLen) :
    Calls Try.prog 4 #[.int .u8 k.toNat, .int .i64 b, .string (str s), .int .i64 at_, .int .u8 c.toNat] w fun e w' => e = .returned (.bool true) ∧ Below w.heap.size w w' := by
  have hl0 := hl
  unfold maxLen at hl
  have hs := str_size s
  have hk := k.toNat_lt
  have hct := c.toNat_lt
  by_cases hlong : 1000 < s.length
  · go_enter Try.func4, Try.ntmps4
    go_wp2_with (go_at_call 10; refine (awake_any _).mono ?_; rintro e w0 ⟨rfl, hb0⟩; have hz0 := hb0.size; (try simp only [World.size_alloc] at hz0))
    go_ret
    exact ⟨rfl, by (repeat' (first | (with_reducible assumption) | (with_reducible exact Below.refl _ _) | (with_reducible refine below_sc ?_ ?_) | ((with_reducible show (_ : Nat) ≤ _); omega) | refine Below.setCell ?_ (by first | omega | (simp; done) | (simp; omega)) _ | refine Below.alloc ?_ (by first | omega | (simp; done) | (simp; omega)) _ | refine Below.drew ?_ | refine below_drewN ?_ _ | refine Below.trans ?_ (Below.mono (by assumption) (by first | omega | (simp; done) | (simp; omega)))))⟩
  obtain ⟨R, hR⟩ : ∃ R, R = sealR k b s := ⟨_, rfl⟩
  have ks := fun w => seal_any k b s w hl0
  have f0 : R.2 ≠ 0 → R.1 = zB := fun h => by rw [hR] at h ⊢; exact sealR_no h
  have f1 : R.2 = 0 → 0 ≤ b ∧ b ≤ 2147483647 ∧ s.length ≤ 500 ∧ R.1 = sealL k b s := fun h => by rw [hR] at h ⊢; exact sealR_ok h
  have lR : R.1.length = 512 := by rw [hR]; exact sealR_length
  rw [← hR] at ks
  clear hR hl0
  obtain ⟨S, E⟩ := R
  simp only at f0 f1 lR
  have ks' : ∀ w, Calls Try.prog 11 #[.int .u8 k.toNat, .int .i64 b, .string (str s)] w fun e w' => e = .returned (.tuple #[.agg (bvs S).toArray, .int .i64 E]) ∧ Below w.heap.size w w' := ks
  have KS := Lib.hid ks'
  have F0 := Lib.hid f0
  have F1 := Lib.hid f1
  clear ks ks' f0 f1
  go_enter Try.func4, Try.ntmps4
  go_wp2_with (go_at_call 10; refine (awake_any _).mono ?_; rintro e w0 ⟨rfl, hb0⟩; have hz0 := hb0.size; (try simp only [World.size_alloc] at hz0))
  refine (KS.out _).mono ?_
  rintro e w1 ⟨rfl, hb1⟩; have hz1 := hb1.size; (try simp only [World.size_alloc] at hz1)
  have b1 := heap_alloc_last w1 (.cells (bvs S).toArray 23)
  have st := st_blk (l := S) (heap_alloc_last w1 (.cells (bvs zB).toArray 23)) zB_length lR
  rw [World.setRow_alloc_new] at st
  have St := Lib.hid st
  have ld := Lib.hid (ld_blk b1 lR)
  have X1 : Below w.heap.size w (w1.alloc (.cells (bvs S).toArray 23)) := by (repeat' (first | (with_reducible assumption) | (with_reducible exact Below.refl _ _) | (with_reducible refine below_sc ?_ ?_) | ((with_reducible show (_ : Nat) ≤ _); omega) | refine Below.setCell ?_ (by first | omega | (simp; done) | (simp; omega)) _ | refine Below.alloc ?_ (by first | omega | (simp; done) | (simp; omega)) _ | refine Below.drew ?_ | refine below_drewN ?_ _ | refine Below.trans ?_ (Below.mono (by assumption) (by first | omega | (simp; done) | (simp; omega)))))
  have hz0' : w.heap.size ≤ w1.heap.size := by omega
  clear st hb1 hb0
  by_cases hE : E = 0
  case neg =>
    have z1 : (E != 0) = true := bne_iff_ne.2 hE
    have z2 : (E == 0) = false := beq_eq_false_iff_ne.2 hE
    obtain rfl := F0.out hE
    have lz := zB_length
    have q : eqB zB zB = true := by simp [eqB]
    clear b1
    go_wp2_with (first | (refine wpList_al rfl 23 rfl alloc_blk ?_; simp only [Act.put]) | (refine wpList_st rfl 23 (.tmp 11) (.tmp 31) rfl St.out ?_; simp only [Act.put]) | (refine wpList_ld rfl 23 (.tmp 11) rfl ld.out ?_; simp only [Act.put]) | (refine wpList_bd rfl 23 rfl build_blk ?_; simp only [Act.put]))
    go_ret
    exact ⟨rfl, X1⟩
  subst hE
  obtain ⟨v0, v1, v2, rfl⟩ := F1.out rfl
  clear F0 F1
  have hto : toR 3 (sealL k b s) = (⟨3, b, fnv (sealL k b s)⟩, 0) := by unfold toR; rw [open_seal v0 v1 v2, if_pos rfl, if_pos (by omega)]
  have kt := fun w => to_any 3 (sealL k b s) lR w
  rw [hto] at kt
  clear hto
  obtain ⟨F, hF⟩ : ∃ F, fnv (sealL k b s) = F := ⟨_, rfl⟩
  rw [hF] at kt
  have kt' : ∀ w, Calls Try.prog 17 #[.int .i64 3, .agg (bvs (sealL k b s)).toArray] w fun e w' => e = .returned (.tuple #[.agg #[.int .i64 3, .int .i64 b, .int .u64 F], .int .i64 0]) ∧ Below w.heap.size w w' := kt
  have KT := Lib.hid kt'
  clear kt kt'
  generalize sealL k b s = S at *
  obtain ⟨i, hi5, hi⟩ := umod at_ 512 (by omega) (by omega)
  have hi5' : i < 512 := by omega
  have hil : i < S.length := by omega
  have lS' : (S.set i c).length = 512 := by rw [List.length_set, lR]
  have hck : S[i] ≠ c → ckR ⟨3, b, F⟩ (S.set i c) = ⟨0, [], 52⟩ := fun h => by
    unfold ckR
    rw [if_pos (.inr (by rw [← hF]; exact fnv_set hil h))]
  have HC := Lib.hid hck
  have HI := Lib.hid hi
  have kc := fun w => check_any 3 b F (S.set i c) lS' w
  have KC := Lib.hid kc
  have B1 := Lib.hid b1
  clear hck hi kc hF b1 KS v0 v1 v2
  go_wp2_with (first | (refine wpList_al rfl 23 rfl alloc_blk ?_; simp only [Act.put]) | (refine wpList_st rfl 23 (.tmp 11) (.tmp 31) rfl St.out ?_; simp only [Act.put]) | (refine wpList_ld rfl 23 (.tmp 11) rfl ld.out ?_; simp only [Act.put]))
  refine (KT.out _).mono ?_
  rintro e w2 ⟨rfl, hb2⟩; have hz2 := hb2.size; (try simp only [World.size_alloc] at hz2)
  have x2 := Ext.trans hb2 (ext_alloc w2 (.cells #[.int .i64 3, .int .i64 b, .int .u64 F] 26))
  have b2 := (Below.block x2 w1.heap.size (by simp)).trans B1.out
  have X2 : Below w.heap.size w (w2.alloc (.cells #[.int .i64 3, .int .i64 b, .int .u64 F] 26)) := X1.trans (Below.mono x2 X1.size)
  have b7 := heap_alloc_last w2 (.cells #[.int .i64 3, .int .i64 b, .int .u64 F] 26)
  have lt1 := (Array.getElem?_eq_some_iff.1 b2).1
  have n1 : w1.heap.size ≠ w2.heap.size := by have := hb2.size; simp at this; omega
  have cell1 : (w2.alloc (.cells #[.int .i64 3, .int .i64 b, .int .u64 F] 26)).cell? ⟨w1.heap.size, i, none⟩ = some (.int .u8 ((S[i]'hil).toNat : Int)) := by
    rw [cell_of_row _ _ _ _ _ _ b2]; simp [bvs, bv, hil]
  have fro1 : (w2.alloc (.cells #[.int .i64 3, .int .i64 b, .int .u64 F] 26)).frozen? ⟨w1.heap.size, i, none⟩ = false := by simp [World.frozen?, b2]
  have b2' := sc_same' (i := i) (bv c) b2
  have e2 : ((bvs S).toArray.setIfInBounds i (bv c)) = (bvs (S.set i c)).toArray := by rw [← bvs_set]; simp
  rw [e2] at b2'
  have b7' := sc_other' (i := i) (bv c) b2 n1.symm b7
  obtain ⟨c0, c1, c2, -, -, -, lt7⟩ := blk3 b7'
  have ld2 := Lib.hid (ld_blk b2' lS')
  have X3 : Below w.heap.size w ((w2.alloc (.cells #[.int .i64 3, .int .i64 b, .int .u64 F] 26)).setCell ⟨w1.heap.size, i, none⟩ (bv c)) := below_sc X2 hz0'
  clear hb2 x2 b7 b7' b2' ld B1 X1 KT St e2
  have hbv : bv c = .int .u8 (c.toNat : Int) := rfl
  rw [hbv] at c0 c1 c2 lt7 ld2 X3
  have Hb2 := Lib.hid b2
  clear b2 hbv
  go_upto_region 7 with fail
  generalize w2.alloc (.cells #[.int .i64 3, .int .i64 b, .int .u64 F] 26) = V at *
  go_upto_region 8 with fail
  rw [HI.out]
  by_cases hq : S[i] = c
  · have hq' : ((S[i].toNat : Int) == (c.toNat : Int)) = true := by rw [hq]; simp
    clear c0 c1 c2 lt7
    go_wp2_with fail
    go_ret
    exact ⟨rfl, X2⟩
  · have hq' : ((S[i].toNat : Int) == (c.toNat : Int)) = false := by
      rw [beq_eq_false_iff_ne]
      intro h
      exact hq (UInt8.toNat_inj.1 (by omega))
    have kc := KC.out
    rw [HC.out hq] at kc
    have KC' := Lib.hid kc
    clear kc KC HC
    go_wp2_with (first | (refine wpList_ld rfl 23 (.tmp 11) rfl ld2.out ?_; simp only [Act.put]))
    refine (KC'.out _).mono ?_
    rintro e w3 ⟨rfl, hb3⟩; have hz3 := hb3.size; (try simp only [World.size_alloc] at hz3)
    have X4 : Below w.heap.size w w3 := X3.trans (hb3.mono X3.size)
    have hv : (⟨0, [], 52⟩ : CkT).v = .tuple #[.int .u8 0, .string ⟨#[]⟩, .int .i64 52] := rfl
    rw [hv]
    go_wp2_with fail
    go_ret
    exact ⟨rfl, X4⟩

theorem walk (k : Int) (wk : (Lit.int .u8 k).wf = true) (b : Int) (wb : (Lit.int .i64 b).wf = true) (s : List UInt8) (hl : s.length ≤ maxLen) (a : Int) (wa : (Lit.int .i64 a).wf = true) (c : Int) (wc : (Lit.int .u8 c).wf = true) (w : World) :
    Calls Try.prog 4 #[.int .u8 k, .int .i64 b, .string (str s), .int .i64 a, .int .u8 c] w fun e w' => e = .returned (.bool true) ∧ Below w.heap.size w w' := by
  have u8 : ∀ k : Int, (Lit.int .u8 k).wf = true → ∃ cb : UInt8, k = (cb.toNat : Int) := fun k wk => ⟨byteOf k, by
    rw [byteOf_toNat]
    have : 0 ≤ k ∧ k ≤ 255 := by simp [Lit.wf, IntKind.min, IntKind.max, IntKind.signed, IntKind.bits] at wk; omega
    omega⟩
  obtain ⟨cb, rfl⟩ := u8 k wk
  obtain ⟨cc, rfl⟩ := u8 c wc
  exact walk0 cb b s a cc w hl

theorem own : ownKnob Try.prog.godebug = none := by kernel_rfl
theorem laidOut : laidOutB Try.prog = true := by kernel_rfl

set_option maxRecDepth 100000 in
theorem lifted (os : Os) (started : os.Started) (H : Type) (enc : TypeId × Value → H) :
    ReturnsInHanded {} Try.checked os 4 .any (Rows.blockOtherSpec.pre6 enc Try.prog Try.f4 Rows.blockOtherRow.domain false) (Rows.blockOtherSpec.post enc Try.prog Try.f4 false true false false) := by
  refine returnsInHanded_of_change (C := Try.checked) own started (by kernel_rfl) Try.func4
    (ChangeSpec.witness6 (enc := enc) (C := Try.checked) false ⟨#[], #[.int .u8 0, .int .i64 0, .string ⟨#[]⟩, .int .i64 0, .int .u8 0], []⟩ 8 (by kernel_rfl) (by kernel_rfl) (by kernel_rfl) (by kernel_rfl)) ?_
  intro W base args ds gs before hval0 hW hcnd _
  have hval : ∀ (j : Nat) t v, Try.f4.params[j]? = some t → args[j]? = some v → Value.okWide Try.prog W .any base t v := hval0
  have hW' := hW
  obtain ⟨p, q, hA0, hV, rfl, hfz, hnd⟩ := hW
  have hA : DataW.TrodAll enc Try.prog W 0 (fun _ => true) true Try.f4.params.toList args.toList ds p := hA0
  rw [Try.params4] at hA hval
  obtain ⟨v0, vs0, d0, ds0, p0, q0, hargs, rfl, rfl, h0, r0⟩ := trodAll_cons hA
  obtain ⟨v1, vs1, d1, ds1, p1, q1, rfl, rfl, rfl, h1, r1⟩ := trodAll_cons r0
  obtain ⟨v2, vs2, d2, ds2, p2, q2, rfl, rfl, rfl, h2, r2⟩ := trodAll_cons r1
  obtain ⟨v3, vs3, d3, ds3, p3, q3, rfl, rfl, rfl, h3, r3⟩ := trodAll_cons r2
  obtain ⟨v4, vs4, d4, ds4, p4, q4, rfl, rfl, rfl, h4, r4⟩ := trodAll_cons r3
  obtain ⟨rfl, rfl, rfl⟩ := trodAll_nil r4
  obtain rfl : args = #[v0, v1, v2, v3, v4] := by cases args; simp_all
  obtain ⟨rfl, rfl⟩ := trodVars_none hV
  have k0 := h0
  have lt0 : ∀ x ∈ p0, x.block < W.heap.size := by obtain ⟨m, hm⟩ := k0; exact DataW.trod_lt m _ _ _ hm
  have k1 := h1
  have lt1 : ∀ x ∈ p1, x.block < W.heap.size := by obtain ⟨m, hm⟩ := k1; exact DataW.trod_lt m _ _ _ hm
  have k2 := h2
  have lt2 : ∀ x ∈ p2, x.block < W.heap.size := by obtain ⟨m, hm⟩ := k2; exact DataW.trod_lt m _ _ _ hm
  have k3 := h3
  have lt3 : ∀ x ∈ p3, x.block < W.heap.size := by obtain ⟨m, hm⟩ := k3; exact DataW.trod_lt m _ _ _ hm
  have k4 := h4
  have lt4 : ∀ x ∈ p4, x.block < W.heap.size := by obtain ⟨m, hm⟩ := k4; exact DataW.trod_lt m _ _ _ hm
  obtain ⟨a0, rfl, -, -, wa0⟩ := open_int Try.underlying5 (hval 0 _ v0 rfl rfl) h0
  obtain ⟨a1, rfl, -, -, wa1⟩ := open_int Try.underlying3 (hval 1 _ v1 rfl rfl) h1
  obtain ⟨l2, rfl, wl2⟩ := open_str Try.underlying9 (hval 2 _ v2 rfl rfl) h2
  obtain ⟨a3, rfl, -, -, wa3⟩ := open_int Try.underlying3 (hval 3 _ v3 rfl rfl) h3
  obtain ⟨a4, rfl, -, -, wa4⟩ := open_int Try.underlying5 (hval 4 _ v4 rfl rfl) h4
  refine (walk a0 wa0 a1 wa1 l2 wl2 a3 wa3 a4 wa4 W).mono fun e W' ⟨he, bel⟩ => ?_
  subst he
  exact ⟨_, rfl, _, _, _, [], _, [], hW', trodAll_mk1 (shut_bool Try.underlying4 _), (trodAll_cons_mk (Below.trod laidOut (by kernel_rfl) (of_decide_eq_true (by kernel_rfl)) k0 bel lt0) (trodAll_cons_mk (Below.trod laidOut (by kernel_rfl) (of_decide_eq_true (by kernel_rfl)) k1 bel lt1) (trodAll_cons_mk (Below.trod laidOut (by kernel_rfl) (of_decide_eq_true (by kernel_rfl)) k2 bel lt2) (trodAll_cons_mk (Below.trod laidOut (by kernel_rfl) (of_decide_eq_true (by kernel_rfl)) k3 bel lt3) (trodAll_cons_mk (Below.trod laidOut (by kernel_rfl) (of_decide_eq_true (by kernel_rfl)) k4 bel lt4) trodAll_mk0))))), rfl, bel.frame _, fun h => by cases h⟩

theorem proved : Rows.BlockOtherSaid :=
  OpenClaim.holds_of_wide 4 Try.f4 rfl rfl rfl rfl rfl rfl rfl ⟨rfl, rfl, rfl, rfl, rfl⟩ rfl rfl rfl rfl rfl (by kernel_rfl) Try.func4 (by kernel_rfl)
    (of_decide_eq_true (by kernel_rfl)) (by unfold Func.isWrapper; first | (rw [if_pos (by decide +kernel)]; kernel_rfl) | (rw [if_neg (by decide +kernel)]; exact ⟨rfl, rfl⟩))
    (fun os started H enc _ => lifted os started H enc)
end Go.Proofs.Ythoeklcgdbbbgaa.blockOther
