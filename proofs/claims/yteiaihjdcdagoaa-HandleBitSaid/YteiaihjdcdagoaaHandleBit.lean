/- Proved: HandleBit returns true whatever handle, place and byte it is called with, and each argument reads behind the call as before. No condition. -/
import Derived.Test.YteiaihjdcdagoaaHandleG
import Derived.Test.YteiaihjdcdagoaaLift
set_option linter.unusedVariables false
namespace Go.Proofs.Yteiaihjdcdagoaa.handleBit
open Go.RowKit Go.ChangeShapes Go.WideShapes Go.ChangeAt
attribute [local go_sem ↓] neq_handle eql_handle

theorem dec_some {l : List UInt8} {x y z : Int} (h : dec l = some (x, y, z)) : x = n4 l 4 ∧ y = n4 l 8 ∧ z = n4 l 12 ∧ hbytes x y z = l := by
  unfold dec at h
  split at h
  · rename_i hc
    simp only [Option.some.injEq, Prod.mk.injEq] at h
    obtain ⟨rfl, rfl, rfl⟩ := h
    exact ⟨rfl, rfl, rfl, hc.2.2⟩
  · cases h

theorem n4_set (l : List UInt8) (i o : Nat) (b : UInt8) (h : i < o ∨ o + 4 ≤ i) : n4 (l.set i b) o = n4 l o := by
  have e : ∀ k, k < 4 → (l.set i b)[o + k]? = l[o + k]? := fun k hk => List.getElem?_set_ne (by omega)
  simp only [n4, pre]
  rw [e 0 (by omega), e 1 (by omega), e 2 (by omega), e 3 (by omega)]

theorem bit_edge {a b c : Int} (hm : mayB a b c = true) (i : Nat) (v : UInt8) (hi : i < 24) (hne : (hbytes a b c)[i]? ≠ some v) (hout : i < 4 ∨ 16 ≤ i) : dec ((hbytes a b c).set i v) = none := by
  have hl := hbytes_length a b c
  cases h : dec ((hbytes a b c).set i v) with
  | none => rfl
  | some p =>
    obtain ⟨x, y, z⟩ := p
    have hs := mayB_spec hm
    obtain ⟨h1, h2, h3, h4⟩ := dec_some h
    obtain ⟨g1, g2, g3⟩ := hbytes_nums a b c ⟨hs.1, hs.2.1⟩ ⟨by omega, by omega⟩ ⟨by omega, by omega⟩
    rw [n4_set _ _ _ _ (by omega), g1] at h1
    rw [n4_set _ _ _ _ (by omega), g2] at h2
    rw [n4_set _ _ _ _ (by omega), g3] at h3
    subst h1 h2 h3
    exfalso
    apply hne
    rw [h4]
    simp [hl, hi]

theorem bit_mid {a b c : Int} (x y z : Int) (i : Nat) (v : UInt8) (hi : i < 24) (hne : (hbytes a b c)[i]? ≠ some v) (h : dec ((hbytes a b c).set i v) = some (x, y, z)) : ¬ (x = a ∧ y = b ∧ z = c) := by
  rintro ⟨rfl, rfl, rfl⟩
  obtain ⟨_, _, _, h4⟩ := dec_some h
  apply hne
  rw [h4]
  have hl := hbytes_length x y z
  simp [hl, hi]

theorem umod (x m : Int) (h0 : 0 < m) (h1 : m ≤ 4611686018427387904) : ∃ i : Nat, (i : Int) < m ∧ wrap64 ((IntKind.u64.wrap x).tmod m) = i := by
  have hw : 0 ≤ IntKind.u64.wrap x := by simp [IntKind.wrap, IntKind.bits, IntKind.signed]; omega
  rw [Int.tmod_eq_emod_of_nonneg hw]
  have h2 := Int.emod_nonneg (IntKind.u64.wrap x) (show m ≠ 0 by omega)
  have h3 := Int.emod_lt_of_pos (IntKind.u64.wrap x) h0
  obtain ⟨i, hi⟩ := Int.eq_ofNat_of_zero_le h2
  exact ⟨i, by omega, by rw [IntWalk.wrap64_in _ ⟨by omega, by omega⟩, hi]⟩

theorem walk (a b c : Int) (_ : (Lit.int .i64 a).wf = true) (_ : (Lit.int .i64 b).wf = true) (_ : (Lit.int .i64 c).wf = true) (at_ : Int) (_ : (Lit.int .i64 at_).wf = true) (v : Int) (hv8 : (Lit.int .u8 v).wf = true) (w : World) :
    Calls Try.prog 6 #[hv a b c, .int .i64 at_, .int .u8 v] w fun e w' => e = .returned (.bool true) ∧ Below w.heap.size w w' := by
  have hu : ∀ s i g, hv s i g = .agg #[.int .i64 s, .int .i64 i, .int .i64 g] := fun _ _ _ => rfl
  obtain ⟨cb, rfl⟩ : ∃ cb : UInt8, v = (cb.toNat : Int) := ⟨byteOf v, by
    rw [byteOf_toNat]
    have : 0 ≤ v ∧ v ≤ 255 := by simp [Lit.wf, IntKind.min, IntKind.max, IntKind.signed, IntKind.bits] at hv8; omega
    omega⟩
  cases hm : mayB a b c with
  | false =>
    have hE : encV a b c = .tuple #[.string ⟨#[]⟩, .int .i64 4] := by unfold encV; rw [if_neg (by rw [hm]; simp)]
    have HE := Lib.hid hE
    clear hE
    go_enter Try.func6, Try.ntmps6
    go_wp2_with (go_at_call 9; refine (awake_any _).mono ?_; rintro e w0 ⟨rfl, hb0⟩; have hz0 := hb0.size; (try simp only [World.size_alloc] at hz0); have hc0 := cellB (hb0.mono (B' := w.heap.size + 1) (by simp)))
    go_wp2_with fail
    refine (encode_any a b c _).mono ?_
    rintro e w1 ⟨rfl, hb1⟩; have hz1 := hb1.size; (try simp only [World.size_alloc] at hz1)
    rw [HE.out]
    have hc1 := cellB (hb1.mono (B' := w.heap.size + 1) (by first | omega | (simp; done) | (simp; omega)))
    go_wp2_with (first | (go_at_call 14; refine (may_any _ _ _ _).mono ?_; rintro e w4 ⟨rfl, hb4⟩; have hz4 := hb4.size; (try simp only [World.size_alloc] at hz4)))
    go_ret
    exact ⟨rfl, by (repeat (first | exact Below.refl _ _ | refine Below.setCell ?_ (by first | omega | (simp; done) | (simp; omega)) _ | refine Below.alloc ?_ (by first | omega | (simp; done) | (simp; omega)) _ | refine Below.drew ?_ | refine below_drewN ?_ _ | refine Below.trans ?_ (Below.mono (by assumption) (by first | omega | (simp; done) | (simp; omega)))))⟩
  | true =>
    have hE : encV a b c = .tuple #[.string (str (hbytes a b c)), .int .i64 0] := by unfold encV; rw [if_pos hm]
    have hl := hbytes_length a b c
    have h24 : (str (hbytes a b c)).size = 24 := by rw [str_size, hl]
    have hedge := @bit_edge a b c hm
    have hmid := @bit_mid a b c
    generalize hbytes a b c = S at *
    have HE := Lib.hid hE
    have Hedge := Lib.hid hedge
    have Hmid := Lib.hid hmid
    clear hE hedge hmid
    go_enter Try.func6, Try.ntmps6
    go_wp2_with (go_at_call 9; refine (awake_any _).mono ?_; rintro e w0 ⟨rfl, hb0⟩; have hz0 := hb0.size; (try simp only [World.size_alloc] at hz0); have hc0 := cellB (hb0.mono (B' := w.heap.size + 1) (by simp)))
    go_wp2_with fail
    refine (encode_any a b c _).mono ?_
    rintro e w1 ⟨rfl, hb1⟩; have hz1 := hb1.size; (try simp only [World.size_alloc] at hz1)
    rw [HE.out]
    have hc1 := cellB (hb1.mono (B' := w.heap.size + 1) (by first | omega | (simp; done) | (simp; omega)))
    go_wp2_with fail
    obtain ⟨i, hi24, hi⟩ := umod at_ 24 (by omega) (by omega)
    rw [hi, bytes_of w1 S Try.underlying9 Try.underlying33 Try.underlying5, hl]
    have hcap : 24 ≤ grownCap w1 24 0 5 := grownCap_ge _ _ _ _
    have hR := bytes_rest S (grownCap w1 24 0 5) (by omega)
    rw [hl] at hR
    obtain ⟨R, hRd⟩ : ∃ R, R = S ++ List.replicate (grownCap w1 24 0 5 - 24) 0 := ⟨_, rfl⟩
    rw [← hRd] at hR
    rw [← hRd]
    have hR24 : R.take 24 = S := by rw [hRd, ← hl, List.take_left']; rfl
    have hget : ∀ k, k < 24 → R[k]? = S[k]? := fun k hk => by rw [hRd, List.getElem?_append_left (by omega)]
    generalize grownCap w1 24 0 5 = C at *
    have hh := heap_alloc_last w1.drew (.cells (bvs R).toArray 5 (C, C + 1))
    have hb2 : Below w.heap.size w (w1.drew.alloc (.cells (bvs R).toArray 5 (C, C + 1))) := by (repeat (first | exact Below.refl _ _ | refine Below.setCell ?_ (by first | omega | (simp; done) | (simp; omega)) _ | refine Below.alloc ?_ (by first | omega | (simp; done) | (simp; omega)) _ | refine Below.drew ?_ | refine below_drewN ?_ _ | refine Below.trans ?_ (Below.mono (by assumption) (by first | omega | (simp; done) | (simp; omega)))))
    have hc2 : ∀ k o, k < w.heap.size + 1 → (w1.drew.alloc (.cells (bvs R).toArray 5 (C, C + 1))).cell? ⟨k, o, none⟩ = w1.cell? ⟨k, o, none⟩ := fun k o hk => World.cell?_alloc_lt w1.drew _ _ (by simp; omega)
    have hz2 : (w1.drew.alloc (.cells (bvs R).toArray 5 (C, C + 1))).heap.size = w1.heap.size + 1 := by simp
    rw [World.size_drew] at hh
    generalize w1.drew.alloc (.cells (bvs R).toArray 5 (C, C + 1)) = w2 at *
    have hil : i < R.length := by omega
    have hi24' : i < 24 := by omega
    have hcell : w2.cell? ⟨w1.heap.size, i, none⟩ = some (.int .u8 (R[i].toNat : Int)) := by
      rw [cell_of_row _ _ _ _ _ _ hh]
      have := bvs_get hil
      simpa [bv] using this
    have hfro : w2.frozen? ⟨w1.heap.size, i, none⟩ = false := by simp [World.frozen?, hh]; omega
    have HR := Lib.hid hR24
    have Hh := Lib.hid hh
    have Hg := Lib.hid hget
    have HRl := Lib.hid hR
    clear hh hget hR24 hi hRd hR
    by_cases heq : R[i].toNat = cb.toNat
    · have hq : ((R[i].toNat : Int) == (cb.toNat : Int)) = true := by simp [heq]
      go_wp2
      go_ret
      exact ⟨rfl, hb2⟩
    · have hq : ((R[i].toNat : Int) == (cb.toNat : Int)) = false := by simp; omega
      have hne : S[i]? ≠ some cb := by
        rw [← Hg.out i hi24', List.getElem?_eq_getElem hil]
        intro h
        injection h with h
        rw [h] at heq
        exact heq rfl
      have Hne := Lib.hid hne
      clear hne heq
      go_wp2
      have hh3 : (w2.setCell ⟨w1.heap.size, i, none⟩ (.int .u8 (cb.toNat : Int))).heap[w1.heap.size]? = some (.cells (bvs (R.set i cb)).toArray 5 (C, C + 1)) := by
        rw [setCell_eq_setRow _ _ _ _ _ _ _ Hh.out, setRow_heap _ _ _ _ _ _ Hh.out, ← bvs_set]
        simp [bv]
      have e24 : ((R.set i cb).drop 0).take 24 = S.set i cb := by rw [List.drop_zero, List.take_set, HR.out]
      rw [conv_rowAt Try.underlying33 Try.underlying5 Try.underlying9 hh3 (by have := HRl.out; simp; omega), e24]
      have hb3 : Below w.heap.size w (w2.setCell ⟨w1.heap.size, i, none⟩ (.int .u8 (cb.toNat : Int))) := by (repeat (first | exact Below.refl _ _ | refine Below.setCell ?_ (by first | omega | (simp; done) | (simp; omega)) _ | refine Below.alloc ?_ (by first | omega | (simp; done) | (simp; omega)) _ | refine Below.drew ?_ | refine below_drewN ?_ _ | refine Below.trans ?_ (Below.mono (by assumption) (by first | omega | (simp; done) | (simp; omega)))))
      have hz3 : (w2.setCell ⟨w1.heap.size, i, none⟩ (.int .u8 (cb.toNat : Int))).heap.size = w1.heap.size + 1 := by simp [hz2]
      have hc3 : ∀ k o, k < w.heap.size + 1 → (w2.setCell ⟨w1.heap.size, i, none⟩ (.int .u8 (cb.toNat : Int))).cell? ⟨k, o, none⟩ = w2.cell? ⟨k, o, none⟩ := fun k o hk => World.cell?_setCell_other _ _ _ _ (fun e => by injection e; omega)
      clear hh3 e24 hcell hfro Hh HR Hg HRl
      generalize w2.setCell ⟨w1.heap.size, i, none⟩ (.int .u8 (cb.toNat : Int)) = w3 at *
      have key : (decV (S.set i cb) = .tuple #[.agg #[.int .i64 0, .int .i64 0, .int .i64 0], .int .i64 4]) ∨ ((4 ≤ i ∧ i < 16) ∧ ∃ x y z, decV (S.set i cb) = .tuple #[.agg #[.int .i64 x, .int .i64 y, .int .i64 z], .int .i64 0] ∧ eqH x y z a b c = false) := by
        unfold decV
        cases hd : dec (S.set i cb) with
        | none => exact .inl rfl
        | some p =>
          obtain ⟨x, y, z⟩ := p
          refine .inr ⟨?_, x, y, z, rfl, eqH_false (Hmid.out x y z i cb hi24' Hne.out hd)⟩
          apply Decidable.byContradiction
          intro h
          rw [Hedge.out i cb hi24' Hne.out (by omega)] at hd
          cases hd
      have g3 : w.heap.size < w3.heap.size := by omega
      have g5 : w.heap.size < w1.heap.size + 1 := by omega
      rcases key with hD | ⟨hmid, x, y, z, hD, hq2⟩
      · have HD := Lib.hid hD
        clear hD
        have hcases : i < 4 ∨ 16 ≤ i ∨ (4 ≤ i ∧ i < 16) := by omega
        rcases hcases with h | h | ⟨h, h'⟩
        · have j1 : (i : Int) < 4 := by omega
          go_wp2_with fail
          refine (decode_any _ (by simp; omega) _).mono ?_
          rintro e w4 ⟨rfl, hb4⟩; have hz4 := hb4.size; (try simp only [World.size_alloc] at hz4)
          rw [HD.out]
          have hc4 := cellB (hb4.mono (B' := w.heap.size + 1) (by first | omega | (simp; done) | (simp; omega)))
          have g4 : w.heap.size < w4.heap.size := by omega
          go_wp2
          go_ret
          exact ⟨rfl, by (repeat (first | exact Below.refl _ _ | refine Below.setCell ?_ (by first | omega | (simp; done) | (simp; omega)) _ | refine Below.alloc ?_ (by first | omega | (simp; done) | (simp; omega)) _ | refine Below.drew ?_ | refine below_drewN ?_ _ | refine Below.trans ?_ (Below.mono (by assumption) (by first | omega | (simp; done) | (simp; omega)))))⟩
        · have j1 : (16 : Int) ≤ i := by omega
          have j2 : ¬ (i : Int) < 4 := by omega
          go_wp2_with fail
          refine (decode_any _ (by simp; omega) _).mono ?_
          rintro e w4 ⟨rfl, hb4⟩; have hz4 := hb4.size; (try simp only [World.size_alloc] at hz4)
          rw [HD.out]
          have hc4 := cellB (hb4.mono (B' := w.heap.size + 1) (by first | omega | (simp; done) | (simp; omega)))
          have g4 : w.heap.size < w4.heap.size := by omega
          go_wp2
          go_ret
          exact ⟨rfl, by (repeat (first | exact Below.refl _ _ | refine Below.setCell ?_ (by first | omega | (simp; done) | (simp; omega)) _ | refine Below.alloc ?_ (by first | omega | (simp; done) | (simp; omega)) _ | refine Below.drew ?_ | refine below_drewN ?_ _ | refine Below.trans ?_ (Below.mono (by assumption) (by first | omega | (simp; done) | (simp; omega)))))⟩
        · have j1 : ¬ (16 : Int) ≤ i := by omega
          have j2 : ¬ (i : Int) < 4 := by omega
          go_wp2_with fail
          refine (decode_any _ (by simp; omega) _).mono ?_
          rintro e w4 ⟨rfl, hb4⟩; have hz4 := hb4.size; (try simp only [World.size_alloc] at hz4)
          rw [HD.out]
          have hc4 := cellB (hb4.mono (B' := w.heap.size + 1) (by first | omega | (simp; done) | (simp; omega)))
          have g4 : w.heap.size < w4.heap.size := by omega
          go_wp2
          go_ret
          exact ⟨rfl, by (repeat (first | exact Below.refl _ _ | refine Below.setCell ?_ (by first | omega | (simp; done) | (simp; omega)) _ | refine Below.alloc ?_ (by first | omega | (simp; done) | (simp; omega)) _ | refine Below.drew ?_ | refine below_drewN ?_ _ | refine Below.trans ?_ (Below.mono (by assumption) (by first | omega | (simp; done) | (simp; omega)))))⟩
      · have HD := Lib.hid hD
        clear hD
        have j1 : ¬ (16 : Int) ≤ i := by omega
        have j2 : ¬ (i : Int) < 4 := by omega
        go_wp2_with fail
        refine (decode_any _ (by simp; omega) _).mono ?_
        rintro e w4 ⟨rfl, hb4⟩; have hz4 := hb4.size; (try simp only [World.size_alloc] at hz4)
        rw [HD.out]
        have hc4 := cellB (hb4.mono (B' := w.heap.size + 1) (by first | omega | (simp; done) | (simp; omega)))
        have g4 : w.heap.size < w4.heap.size := by omega
        go_wp2
        go_ret
        exact ⟨rfl, by (repeat (first | exact Below.refl _ _ | refine Below.setCell ?_ (by first | omega | (simp; done) | (simp; omega)) _ | refine Below.alloc ?_ (by first | omega | (simp; done) | (simp; omega)) _ | refine Below.drew ?_ | refine below_drewN ?_ _ | refine Below.trans ?_ (Below.mono (by assumption) (by first | omega | (simp; done) | (simp; omega)))))⟩

theorem own : ownKnob Try.prog.godebug = none := by kernel_rfl
theorem laidOut : laidOutB Try.prog = true := by kernel_rfl

set_option maxRecDepth 100000 in
theorem lifted (os : Os) (started : os.Started) (H : Type) (enc : TypeId × Value → H) :
    ReturnsInHanded {} Try.checked os 6 .any (Rows.handleBitSpec.pre6 enc Try.prog Try.f6 Rows.handleBitRow.domain false) (Rows.handleBitSpec.post enc Try.prog Try.f6 false true false false) := by
  refine returnsInHanded_of_change (C := Try.checked) own started (by kernel_rfl) Try.func6
    (ChangeSpec.witness6 (enc := enc) (C := Try.checked) false ⟨#[], #[.agg #[.int .i64 0, .int .i64 0, .int .i64 0], .int .i64 0, .int .u8 0], []⟩ 8 (by kernel_rfl) (by kernel_rfl) (by kernel_rfl) (by kernel_rfl)) ?_
  intro W base args ds gs before hval0 hW hcnd _
  have hval : ∀ (j : Nat) t v, Try.f6.params[j]? = some t → args[j]? = some v → Value.okWide Try.prog W .any base t v := hval0
  have hW' := hW
  obtain ⟨p, q, hA0, hV, rfl, hfz, hnd⟩ := hW
  have hA : DataW.TrodAll enc Try.prog W 0 (fun _ => true) true Try.f6.params.toList args.toList ds p := hA0
  rw [Try.params6] at hA hval
  obtain ⟨v0, vs0, d0, ds0, p0, q0, hargs, rfl, rfl, h0, r0⟩ := trodAll_cons hA
  obtain ⟨v1, vs1, d1, ds1, p1, q1, rfl, rfl, rfl, h1, r1⟩ := trodAll_cons r0
  obtain ⟨v2, vs2, d2, ds2, p2, q2, rfl, rfl, rfl, h2, r2⟩ := trodAll_cons r1
  obtain ⟨rfl, rfl, rfl⟩ := trodAll_nil r2
  obtain rfl : args = #[v0, v1, v2] := by cases args; simp_all
  obtain ⟨rfl, rfl⟩ := trodVars_none hV
  have k0 := h0
  have lt0 : ∀ x ∈ p0, x.block < W.heap.size := by obtain ⟨m, hm⟩ := k0; exact DataW.trod_lt m _ _ _ hm
  have k1 := h1
  have lt1 : ∀ x ∈ p1, x.block < W.heap.size := by obtain ⟨m, hm⟩ := k1; exact DataW.trod_lt m _ _ _ hm
  have k2 := h2
  have lt2 : ∀ x ∈ p2, x.block < W.heap.size := by obtain ⟨m, hm⟩ := k2; exact DataW.trod_lt m _ _ _ hm
  obtain ⟨a0, b0, c0, rfl, wa0, wb0, wc0⟩ := open_handle Try.underlying23 Try.underlying3 (by kernel_rfl) (by kernel_rfl) (hval 0 _ v0 rfl rfl) h0
  obtain ⟨a1, rfl, -, -, wa1⟩ := open_int Try.underlying3 (hval 1 _ v1 rfl rfl) h1
  obtain ⟨a2, rfl, -, -, wa2⟩ := open_int Try.underlying5 (hval 2 _ v2 rfl rfl) h2
  refine (walk a0 b0 c0 wa0 wb0 wc0 a1 wa1 a2 wa2 W).mono fun e W' ⟨he, bel⟩ => ?_
  subst he
  exact ⟨_, rfl, _, _, _, [], _, [], hW', trodAll_mk1 (shut_bool Try.underlying4 _), (trodAll_cons_mk (Below.trod laidOut (by kernel_rfl) (of_decide_eq_true (by kernel_rfl)) k0 bel lt0) (trodAll_cons_mk (Below.trod laidOut (by kernel_rfl) (of_decide_eq_true (by kernel_rfl)) k1 bel lt1) (trodAll_cons_mk (Below.trod laidOut (by kernel_rfl) (of_decide_eq_true (by kernel_rfl)) k2 bel lt2) trodAll_mk0))), rfl, bel.frame _, fun h => by cases h⟩

theorem proved : Rows.HandleBitSaid :=
  OpenClaim.holds_of_wide 6 Try.f6 rfl rfl rfl rfl rfl rfl rfl ⟨rfl, rfl, rfl, rfl, rfl⟩ rfl rfl rfl rfl rfl (by kernel_rfl) Try.func6 (by kernel_rfl)
    (of_decide_eq_true (by kernel_rfl)) (by unfold Func.isWrapper; first | (rw [if_pos (by decide +kernel)]; kernel_rfl) | (rw [if_neg (by decide +kernel)]; exact ⟨rfl, rfl⟩))
    (fun os started H enc _ => lifted os started H enc)
end Go.Proofs.Yteiaihjdcdagoaa.handleBit
