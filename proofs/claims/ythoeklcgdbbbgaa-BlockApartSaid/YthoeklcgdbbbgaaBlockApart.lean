/- Proved: BlockApart returns true whatever pointers, kinds, births and bodies it is called with, and each argument reads behind the call as before. No condition. -/
import Derived.Test.YthoeklcgdbbbgaaBlkK
import Derived.Test.YthoeklcgdbbbgaaPtLift
import Derived.Deep.DeepCutAuto
set_option linter.unusedVariables false
namespace Go.Proofs.Ythoeklcgdbbbgaa.blockApart
open Go.RowKit Go.ChangeShapes Go.WideShapes Go.ChangeAt Go.Deep Go.Proofs.Ythoeklcgdbbbgaa
attribute [local go_sem ↓] neq_blk eql_blk eql_ptr neq_ptr

theorem wpList_ldg {P : Program} {ops : Array Oper} {rest : List Oper} {o : Oper} {a : Act} {w : World} {Q : Exit → Act → World → Prop} (ty : TypeId) (x : Operand) (ho : o.op = .load ty x) (hg : Region.wanted o (yielded ops a.tmps) = true) {v : Value} (hr : (Instr.loadAt ty (a.eval x)).run P w = .ok v w)
    (h : wpList P ops Q rest (a.put o.dst v) w) : wpList P ops Q (o :: rest) a w := by
  unfold wpList
  rw [if_pos hg]
  refine .inl ?_
  unfold Oper.wp execOp
  simp only [ho, Sem.run_bind, hr, Result.andThen_ok, Sem.run_pure]
  exact h
theorem nB_be8 {n : Int} (h0 : 0 ≤ n) (h1 : n ≤ 18446744073709551615) : nB (beN n 8) = n := by
  have a0 := byteOf_toNat (n / 2 ^ (8 * 0))
  have a1 := byteOf_toNat (n / 2 ^ (8 * 1))
  have a2 := byteOf_toNat (n / 2 ^ (8 * 2))
  have a3 := byteOf_toNat (n / 2 ^ (8 * 3))
  have a4 := byteOf_toNat (n / 2 ^ (8 * 4))
  have a5 := byteOf_toNat (n / 2 ^ (8 * 5))
  have a6 := byteOf_toNat (n / 2 ^ (8 * 6))
  have a7 := byteOf_toNat (n / 2 ^ (8 * 7))
  simp only [nB, beN, List.foldl_cons, List.foldl_nil]
  simp only [Nat.mul_zero, Nat.reduceMul] at *
  omega
theorem nB_be4' {n : Int} (h0 : 0 ≤ n) (h1 : n ≤ 2147483647) : nB (beN n 4) = n := by
  rw [show beN n 4 = [byteOf (n / 16777216), byteOf (n / 65536), byteOf (n / 256), byteOf n] from by simp [beN]]
  exact nB_be4 h0 (by omega)
theorem pB_inj {a b s a' b' s' : Int} (h : mayP a b s = true) (h' : mayP a' b' s' = true) (hs : 0 ≤ s ∧ s ≤ 18446744073709551615) (hs' : 0 ≤ s' ∧ s' ≤ 18446744073709551615) : (pBytes a b s == pBytes a' b' s') = eqP a b s a' b' s' := by
  obtain ⟨h0, h1, h2, h3⟩ := mayP_bd h
  obtain ⟨k0, k1, k2, k3⟩ := mayP_bd h'
  by_cases he : a = a' ∧ b = b' ∧ s = s'
  · obtain ⟨rfl, rfl, rfl⟩ := he
    simp [eqP]
  · have e : eqP a b s a' b' s' = false := by simp [eqP]; intro x y z; exact he ⟨x, y, z⟩
    rw [e, beq_eq_false_iff_ne]
    intro hp
    unfold pBytes at hp
    rw [List.append_assoc, List.append_assoc] at hp
    have p1 := List.append_inj_left hp (by rw [beN_length, beN_length])
    have p2 := List.append_inj_right hp (by rw [beN_length, beN_length])
    have p3 := List.append_inj_left p2 (by rw [beN_length, beN_length])
    have p4 := List.append_inj_right p2 (by rw [beN_length, beN_length])
    apply he
    have e1 := congrArg nB p1
    have e2 := congrArg nB p3
    have e3 := congrArg nB p4
    rw [nB_be4' h0 (by omega), nB_be4' k0 (by omega)] at e1
    rw [nB_be4' h2 h3, nB_be4' k2 k3] at e2
    rw [nB_be8 hs.1 hs.2, nB_be8 hs'.1 hs'.2] at e3
    exact ⟨e1, e2, e3⟩
theorem pEnc_ok {a b s : Int} (h : (pEnc a b s).2 = 0) : mayP a b s = true ∧ (pEnc a b s).1 = pBytes a b s := by
  unfold pEnc at h ⊢
  split at h
  · rename_i h1
    rw [if_pos h1]
    exact ⟨h1, rfl⟩
  · simp at h
theorem seal_inj {k k' : UInt8} {b b' : Int} {s s' : List UInt8} (h : (sealR k b s).2 = 0) (h' : (sealR k' b' s').2 = 0) (he : (sealR k b s).1 = (sealR k' b' s').1) : k = k' ∧ b = b' ∧ s = s' := by
  obtain ⟨v0, v1, v2, e⟩ := sealR_ok h
  obtain ⟨u0, u1, u2, e'⟩ := sealR_ok h'
  rw [e, e'] at he
  have := congrArg openR he
  rw [open_seal v0 v1 v2, open_seal u0 u1 u2] at this
  simp only [OpT.mk.injEq] at this
  exact ⟨this.1, this.2.1, this.2.2.1⟩

set_option maxHeartbeats 16000000 in
set_option maxRecDepth 100000 in
theorem walk0 (a b s a' b' s' : Int) (hs : 0 ≤ s ∧ s ≤ 18446744073709551615) (hs' : 0 ≤ s' ∧ s' ≤ 18446744073709551615) (k k' : UInt8) (y y' : Int) (l l' : List UInt8) (w : World) (hl : l.length ≤ maxLen) (hl' : l'.length ≤ maxLen) :
    Calls Try.prog 6 #[.agg #[.int .i64 a, .int .i64 b, .int .u64 s], .agg #[.int .i64 a', .int .i64 b', .int .u64 s'], .int .u8 k.toNat, .int .u8 k'.toNat, .int .i64 y, .int .i64 y', .string (str l), .string (str l')] w fun e w' => e = .returned (.bool true) ∧ Below w.heap.size w w' := by
  have hl0 := hl
  have hl0' := hl'
  unfold maxLen at hl hl'
  have z1 := str_size l
  have z2 := str_size l'
  have hk := k.toNat_lt
  have hk' := k'.toNat_lt
  by_cases g1 : 1000 < l.length
  · go_enter Try.func6, Try.ntmps6
    go_wp2_with (go_at_call 10; refine (awake_any _).mono ?_; rintro e w0 ⟨rfl, hb0⟩; have hz0 := hb0.size; (try simp only [World.size_alloc] at hz0))
    go_ret
    exact ⟨rfl, by (repeat' (first | (with_reducible assumption) | (with_reducible exact Below.refl _ _) | (with_reducible refine below_sc ?_ ?_) | ((with_reducible show (_ : Nat) ≤ _); omega) | refine Below.setCell ?_ (by first | omega | (simp; done) | (simp; omega)) _ | refine Below.alloc ?_ (by first | omega | (simp; done) | (simp; omega)) _ | refine Below.drew ?_ | refine below_drewN ?_ _ | refine Below.trans ?_ (Below.mono (by assumption) (by first | omega | (simp; done) | (simp; omega)))))⟩
  by_cases g2 : 1000 < l'.length
  · go_enter Try.func6, Try.ntmps6
    go_wp2_with (go_at_call 10; refine (awake_any _).mono ?_; rintro e w0 ⟨rfl, hb0⟩; have hz0 := hb0.size; (try simp only [World.size_alloc] at hz0))
    go_ret
    exact ⟨rfl, by (repeat' (first | (with_reducible assumption) | (with_reducible exact Below.refl _ _) | (with_reducible refine below_sc ?_ ?_) | ((with_reducible show (_ : Nat) ≤ _); omega) | refine Below.setCell ?_ (by first | omega | (simp; done) | (simp; omega)) _ | refine Below.alloc ?_ (by first | omega | (simp; done) | (simp; omega)) _ | refine Below.drew ?_ | refine below_drewN ?_ _ | refine Below.trans ?_ (Below.mono (by assumption) (by first | omega | (simp; done) | (simp; omega)))))⟩
  obtain ⟨R1, hR1⟩ : ∃ R, R = pEnc a b s := ⟨_, rfl⟩
  obtain ⟨R2, hR2⟩ : ∃ R, R = pEnc a' b' s' := ⟨_, rfl⟩
  obtain ⟨R3, hR3⟩ : ∃ R, R = sealR k y l := ⟨_, rfl⟩
  obtain ⟨R4, hR4⟩ : ∃ R, R = sealR k' y' l' := ⟨_, rfl⟩
  have f1 : R1.2 = 0 → R2.2 = 0 → (R1.1 == R2.1) = eqP a b s a' b' s' ∧ (str R1.1).size = 16 ∧ (str R2.1).size = 16 := fun h h' => by
    rw [hR1] at h ⊢; rw [hR2] at h' ⊢
    obtain ⟨e1, e2⟩ := pEnc_ok h
    obtain ⟨d1, d2⟩ := pEnc_ok h'
    rw [e2, d2]
    exact ⟨pB_inj e1 d1 hs hs', by rw [str_size, pBytes_length], by rw [str_size, pBytes_length]⟩
  have f2 : R3.2 = 0 → R4.2 = 0 → R3.1 = R4.1 → k = k' ∧ y = y' ∧ l = l' := fun h h' h2 => by
    rw [hR3] at h h2; rw [hR4] at h' h2
    exact seal_inj h h' h2
  have f3 : k = k' → y = y' → l = l' → R3.1 = R4.1 := fun h1 h2 h3 => by rw [hR3, hR4, h1, h2, h3]
  have l3 : R3.1.length = 512 := by rw [hR3]; exact sealR_length
  have l4 : R4.1.length = 512 := by rw [hR4]; exact sealR_length
  have k1 := fun w => encode_any a b s hs w
  have k2 := fun w => encode_any a' b' s' hs' w
  have k3 := fun w => seal_any k y l w hl0
  have k4 := fun w => seal_any k' y' l' w hl0'
  rw [← hR1] at k1
  rw [← hR2] at k2
  rw [← hR3] at k3
  rw [← hR4] at k4
  clear hR1 hR2 hR3 hR4 hl0 hl0'
  obtain ⟨S1, E1⟩ := R1
  obtain ⟨S2, E2⟩ := R2
  obtain ⟨S3, E3⟩ := R3
  obtain ⟨S4, E4⟩ := R4
  simp only at f1 f2 f3 l3 l4
  have hv : ∀ r : List UInt8 × Int, seV r = .tuple #[.string (str r.1), .int .i64 r.2] := fun _ => rfl
  have hb : ∀ r : List UInt8 × Int, beV r = .tuple #[.agg (bvs r.1).toArray, .int .i64 r.2] := fun _ => rfl
  simp only [hv, hb] at k1 k2 k3 k4
  have K1 := Lib.hid k1
  have K2 := Lib.hid k2
  have K3 := Lib.hid k3
  have K4 := Lib.hid k4
  have F1 := Lib.hid f1
  have F2 := Lib.hid f2
  have F3 := Lib.hid f3
  clear f1 f2 f3 k1 k2 k3 k4 hv hb
  have sL := strL
  go_enter Try.func6, Try.ntmps6
  go_wp2_with (go_at_call 10; refine (awake_any _).mono ?_; rintro e w0 ⟨rfl, hb0⟩; have hz0 := hb0.size; (try simp only [World.size_alloc] at hz0); have hc0 := cellB (hb0.mono (B' := w.heap.size + 2) (by first | omega | (simp; done) | (simp; omega))); have lt0 : w.heap.size < w0.heap.size := (by omega); have lt1 : w.heap.size + 1 < w0.heap.size := (by omega))
  refine (K1.out _).mono ?_
  rintro e w1 ⟨rfl, hb1⟩; have hz1 := hb1.size; (try simp only [World.size_alloc] at hz1)
  have hc1 := cellB (hb1.mono (B' := w.heap.size + 2) (by first | omega | (simp; done) | (simp; omega)))
  go_wp2_with fail
  refine (K2.out _).mono ?_
  rintro e w2 ⟨rfl, hb2⟩; have hz2 := hb2.size; (try simp only [World.size_alloc] at hz2)
  have hc2 := cellB (hb2.mono (B' := w.heap.size + 2) (by first | omega | (simp; done) | (simp; omega)))
  have X2 : Below w.heap.size w w2 := by (repeat' (first | (with_reducible assumption) | (with_reducible exact Below.refl _ _) | (with_reducible refine below_sc ?_ ?_) | ((with_reducible show (_ : Nat) ≤ _); omega) | refine Below.setCell ?_ (by first | omega | (simp; done) | (simp; omega)) _ | refine Below.alloc ?_ (by first | omega | (simp; done) | (simp; omega)) _ | refine Below.drew ?_ | refine below_drewN ?_ _ | refine Below.trans ?_ (Below.mono (by assumption) (by first | omega | (simp; done) | (simp; omega)))))
  go_upto_region 5 with fail
  go_cut [72] (fun v wx => v = .bool false ∧ Hid (Below w.heap.size w wx))
  case first =>
    by_cases e1 : E1 = 0
    · subst e1
      by_cases e2 : E2 = 0
      · subst e2
        obtain ⟨q1, q2, q3⟩ := F1.out rfl rfl
        have q4 := strL S1
        have q5 := strL S2
        cases q : eqP a b s a' b' s' with
        | true =>
          rw [q] at q1
          go_wp2_with fail
          go_meet
          case rel => exact ⟨rfl, Lib.hid X2⟩
        | false =>
          rw [q] at q1
          go_wp2_with fail
          go_meet
          case rel => exact ⟨rfl, Lib.hid X2⟩
      · have z4 : (E2 == 0) = false := beq_eq_false_iff_ne.2 e2
        go_wp2_with fail
        go_meet
        case rel => exact ⟨rfl, Lib.hid X2⟩
    · have z4 : (E1 == 0) = false := beq_eq_false_iff_ne.2 e1
      go_wp2_with fail
      go_meet
      case rel => exact ⟨rfl, Lib.hid X2⟩
  case rest =>
    obtain ⟨rfl, HX⟩ := hcut
    have X := HX.out
    clear HX X2 hc0 hc1 hc2 hb0 hb1 hb2 F1 K1 K2 hz0 hz1 hz2 lt0 lt1
    go_wp2_with fail
    refine (K3.out _).mono ?_
    rintro e w3 ⟨rfl, hb3⟩; have hz3 := hb3.size; (try simp only [World.size_alloc] at hz3)
    have X3 : Below w.heap.size w w3 := X.trans (hb3.mono X.size)
    have b21 := heap_alloc_last w3 (.cells (bvs S3).toArray 23)
    have st := st_blk (l := S3) (heap_alloc_last w3 (.cells (bvs zB).toArray 23)) zB_length l3
    rw [World.setRow_alloc_new] at st
    have St := Lib.hid st
    have B21 := Lib.hid b21
    have X4 : Below w.heap.size w (w3.alloc (.cells (bvs S3).toArray 23)) := X3.alloc X3.size _
    clear hb3 b21 st X X3 K3
    go_wp2_with (first | (refine wpList_al rfl 23 rfl alloc_blk ?_; simp only [Act.put]) | (refine wpList_st rfl 23 (.tmp 21) (.tmp 78) rfl St.out ?_; simp only [Act.put]))
    refine (K4.out _).mono ?_
    rintro e w4 ⟨rfl, hb4⟩; have hz4 := hb4.size; (try simp only [World.size_alloc] at hz4)
    have b21 := (hb4.block w3.heap.size (by simp)).trans B21.out
    have X5 : Below w.heap.size w w4 := X4.trans (hb4.mono X4.size)
    have lt21 := (Array.getElem?_eq_some_iff.1 b21).1
    have st := st_blk (l := S4) (heap_alloc_last w4 (.cells (bvs zB).toArray 23)) zB_length l4
    rw [World.setRow_alloc_new] at st
    have St4 := Lib.hid st
    have ld21 := Lib.hid (ld_blk ((Below.heap_alloc w4 (.cells (bvs S4).toArray 23) w3.heap.size lt21).trans b21) l3)
    have ld23 := Lib.hid (ld_blk (heap_alloc_last w4 (.cells (bvs S4).toArray 23)) l4)
    have X6 : Below w.heap.size w (w4.alloc (.cells (bvs S4).toArray 23)) := X5.alloc X5.size _
    clear hb4 b21 st X4 X5 K4 St B21 lt21
    go_upto_region 9 with (first | (refine wpList_al rfl 23 rfl alloc_blk ?_; simp only [Act.put]) | (refine wpList_st rfl 23 (.tmp 23) (.tmp 85) rfl St4.out ?_; simp only [Act.put]))
    clear St4 hs hs' hk hk' z1 z2 hz3 hz4
    generalize w4.alloc (.cells (bvs S4).toArray 23) = V at *
    by_cases e3 : E3 = 0
    · subst e3
      by_cases e4 : E4 = 0
      · subst e4
        by_cases hq : k = k' ∧ y = y' ∧ l = l'
        · obtain ⟨rfl, rfl, rfl⟩ := hq
          obtain rfl := F3.out rfl rfl rfl
          have q : eqB S3 S3 = true := by simp [eqB]
          clear F2 F3
          go_wp2_with (first | (refine wpList_ldg 23 (.tmp 21) rfl (by rfl) ld21.out ?_; simp only [Act.put]) | (refine wpList_ldg 23 (.tmp 23) rfl (by rfl) ld23.out ?_; simp only [Act.put]))
          go_ret
          exact ⟨rfl, X6⟩
        · have q : eqB S3 S4 = false := by
            simp only [eqB, decide_eq_false_iff_not]
            intro h
            exact hq (F2.out rfl rfl h)
          clear F2 F3
          by_cases h1 : k = k'
          · subst h1
            by_cases h2 : y = y'
            · subst h2
              have h3 : l ≠ l' := fun h => hq ⟨rfl, rfl, h⟩
              have h3' : (l == l') = false := beq_eq_false_iff_ne.2 h3
              go_wp2_with (first | (refine wpList_ldg 23 (.tmp 21) rfl (by rfl) ld21.out ?_; simp only [Act.put]) | (refine wpList_ldg 23 (.tmp 23) rfl (by rfl) ld23.out ?_; simp only [Act.put]))
              go_ret
              exact ⟨rfl, X6⟩
            · have h2' : (y == y') = false := beq_eq_false_iff_ne.2 h2
              clear hq
              go_wp2_with (first | (refine wpList_ldg 23 (.tmp 21) rfl (by rfl) ld21.out ?_; simp only [Act.put]) | (refine wpList_ldg 23 (.tmp 23) rfl (by rfl) ld23.out ?_; simp only [Act.put]))
              go_ret
              exact ⟨rfl, X6⟩
          · have h1' : ((k.toNat : Int) == (k'.toNat : Int)) = false := by
              rw [beq_eq_false_iff_ne]
              intro h
              exact h1 (UInt8.toNat_inj.1 (by omega))
            clear hq
            go_wp2_with (first | (refine wpList_ldg 23 (.tmp 21) rfl (by rfl) ld21.out ?_; simp only [Act.put]) | (refine wpList_ldg 23 (.tmp 23) rfl (by rfl) ld23.out ?_; simp only [Act.put]))
            go_ret
            exact ⟨rfl, X6⟩
      · have z5 : (E4 != 0) = true := bne_iff_ne.2 e4
        have z6 : (E4 == 0) = false := beq_eq_false_iff_ne.2 e4
        go_wp2_with fail
        go_ret
        exact ⟨rfl, X6⟩
    · have z5 : (E3 != 0) = true := bne_iff_ne.2 e3
      have z6 : (E3 == 0) = false := beq_eq_false_iff_ne.2 e3
      go_wp2_with fail
      go_ret
      exact ⟨rfl, X6⟩

theorem walk (p : PtT) (wp : p.Ok) (q : PtT) (wq : q.Ok) (k : Int) (wk : (Lit.int .u8 k).wf = true) (k' : Int) (wk' : (Lit.int .u8 k').wf = true) (y : Int) (wy : (Lit.int .i64 y).wf = true) (y' : Int) (wy' : (Lit.int .i64 y').wf = true) (l : List UInt8) (hl : l.length ≤ maxLen) (l' : List UInt8) (hl' : l'.length ≤ maxLen) (w : World) :
    Calls Try.prog 6 #[p.v, q.v, .int .u8 k, .int .u8 k', .int .i64 y, .int .i64 y', .string (str l), .string (str l')] w fun e w' => e = .returned (.bool true) ∧ Below w.heap.size w w' := by
  have u8 : ∀ k : Int, (Lit.int .u8 k).wf = true → ∃ cb : UInt8, k = (cb.toNat : Int) := fun k wk => ⟨byteOf k, by
    rw [byteOf_toNat]
    have : 0 ≤ k ∧ k ≤ 255 := by simp [Lit.wf, IntKind.min, IntKind.max, IntKind.signed, IntKind.bits] at wk; omega
    omega⟩
  obtain ⟨c, rfl⟩ := u8 k wk
  obtain ⟨c', rfl⟩ := u8 k' wk'
  exact walk0 _ _ _ _ _ _ wp.s wq.s c c' y y' l l' w hl hl'

theorem own : ownKnob Try.prog.godebug = none := by kernel_rfl
theorem laidOut : laidOutB Try.prog = true := by kernel_rfl

set_option maxRecDepth 100000 in
theorem lifted (os : Os) (started : os.Started) (H : Type) (enc : TypeId × Value → H) :
    ReturnsInHanded {} Try.checked os 6 .any (Rows.blockApartSpec.pre6 enc Try.prog Try.f6 Rows.blockApartRow.domain false) (Rows.blockApartSpec.post enc Try.prog Try.f6 false true false false) := by
  refine returnsInHanded_of_change (C := Try.checked) own started (by kernel_rfl) Try.func6
    (ChangeSpec.witness6 (enc := enc) (C := Try.checked) false ⟨#[], #[.agg #[.int .i64 0, .int .i64 0, .int .u64 0], .agg #[.int .i64 0, .int .i64 0, .int .u64 0], .int .u8 0, .int .u8 0, .int .i64 0, .int .i64 0, .string ⟨#[]⟩, .string ⟨#[]⟩], []⟩ 8 (by kernel_rfl) (by kernel_rfl) (by kernel_rfl) (by kernel_rfl)) ?_
  intro W base args ds gs before hval0 hW hcnd _
  have hval : ∀ (j : Nat) t v, Try.f6.params[j]? = some t → args[j]? = some v → Value.okWide Try.prog W .any base t v := hval0
  have hW' := hW
  obtain ⟨p, q, hA0, hV, rfl, hfz, hnd⟩ := hW
  have hA : DataW.TrodAll enc Try.prog W 0 (fun _ => true) true Try.f6.params.toList args.toList ds p := hA0
  rw [Try.params6] at hA hval
  obtain ⟨v0, vs0, d0, ds0, p0, q0, hargs, rfl, rfl, h0, r0⟩ := trodAll_cons hA
  obtain ⟨v1, vs1, d1, ds1, p1, q1, rfl, rfl, rfl, h1, r1⟩ := trodAll_cons r0
  obtain ⟨v2, vs2, d2, ds2, p2, q2, rfl, rfl, rfl, h2, r2⟩ := trodAll_cons r1
  obtain ⟨v3, vs3, d3, ds3, p3, q3, rfl, rfl, rfl, h3, r3⟩ := trodAll_cons r2
  obtain ⟨v4, vs4, d4, ds4, p4, q4, rfl, rfl, rfl, h4, r4⟩ := trodAll_cons r3
  obtain ⟨v5, vs5, d5, ds5, p5, q5, rfl, rfl, rfl, h5, r5⟩ := trodAll_cons r4
  obtain ⟨v6, vs6, d6, ds6, p6, q6, rfl, rfl, rfl, h6, r6⟩ := trodAll_cons r5
  obtain ⟨v7, vs7, d7, ds7, p7, q7, rfl, rfl, rfl, h7, r7⟩ := trodAll_cons r6
  obtain ⟨rfl, rfl, rfl⟩ := trodAll_nil r7
  obtain rfl : args = #[v0, v1, v2, v3, v4, v5, v6, v7] := by cases args; simp_all
  obtain ⟨rfl, rfl⟩ := trodVars_none hV
  have k0 := h0
  have lt0 : ∀ x ∈ p0, x.block < W.heap.size := by obtain ⟨m, hm⟩ := k0; exact DataW.trod_lt m _ _ _ hm
  have k1 := h1
  have lt1 : ∀ x ∈ p1, x.block < W.heap.size := by obtain ⟨m, hm⟩ := k1; exact DataW.trod_lt m _ _ _ hm
  have k2 := h2
  have lt2 : ∀ x ∈ p2, x.block < W.heap.size := by obtain ⟨m, hm⟩ := k2; exact DataW.trod_lt m _ _ _ hm
  have k3 := h3
  have lt3 : ∀ x ∈ p3, x.block < W.heap.size := by obtain ⟨m, hm⟩ := k3; exact DataW.trod_lt m _ _ _ hm
  have k4 := h4
  have lt4 : ∀ x ∈ p4, x.block < W.heap.size := by obtain ⟨m, hm⟩ := k4; exact DataW.trod_lt m _ _ _ hm
  have k5 := h5
  have lt5 : ∀ x ∈ p5, x.block < W.heap.size := by obtain ⟨m, hm⟩ := k5; exact DataW.trod_lt m _ _ _ hm
  have k6 := h6
  have lt6 : ∀ x ∈ p6, x.block < W.heap.size := by obtain ⟨m, hm⟩ := k6; exact DataW.trod_lt m _ _ _ hm
  have k7 := h7
  have lt7 : ∀ x ∈ p7, x.block < W.heap.size := by obtain ⟨m, hm⟩ := k7; exact DataW.trod_lt m _ _ _ hm
  obtain ⟨x0, rfl, w0⟩ := open_ptr (hval 0 _ v0 rfl rfl) h0
  obtain ⟨x1, rfl, w1⟩ := open_ptr (hval 1 _ v1 rfl rfl) h1
  obtain ⟨a2, rfl, -, -, wa2⟩ := open_int Try.underlying5 (hval 2 _ v2 rfl rfl) h2
  obtain ⟨a3, rfl, -, -, wa3⟩ := open_int Try.underlying5 (hval 3 _ v3 rfl rfl) h3
  obtain ⟨a4, rfl, -, -, wa4⟩ := open_int Try.underlying3 (hval 4 _ v4 rfl rfl) h4
  obtain ⟨a5, rfl, -, -, wa5⟩ := open_int Try.underlying3 (hval 5 _ v5 rfl rfl) h5
  obtain ⟨l6, rfl, wl6⟩ := open_str Try.underlying9 (hval 6 _ v6 rfl rfl) h6
  obtain ⟨l7, rfl, wl7⟩ := open_str Try.underlying9 (hval 7 _ v7 rfl rfl) h7
  refine (walk x0 w0 x1 w1 a2 wa2 a3 wa3 a4 wa4 a5 wa5 l6 wl6 l7 wl7 W).mono fun e W' ⟨he, bel⟩ => ?_
  subst he
  exact ⟨_, rfl, _, _, _, [], _, [], hW', trodAll_mk1 (shut_bool Try.underlying4 _), (trodAll_cons_mk (Below.trod laidOut (by kernel_rfl) (of_decide_eq_true (by kernel_rfl)) k0 bel lt0) (trodAll_cons_mk (Below.trod laidOut (by kernel_rfl) (of_decide_eq_true (by kernel_rfl)) k1 bel lt1) (trodAll_cons_mk (Below.trod laidOut (by kernel_rfl) (of_decide_eq_true (by kernel_rfl)) k2 bel lt2) (trodAll_cons_mk (Below.trod laidOut (by kernel_rfl) (of_decide_eq_true (by kernel_rfl)) k3 bel lt3) (trodAll_cons_mk (Below.trod laidOut (by kernel_rfl) (of_decide_eq_true (by kernel_rfl)) k4 bel lt4) (trodAll_cons_mk (Below.trod laidOut (by kernel_rfl) (of_decide_eq_true (by kernel_rfl)) k5 bel lt5) (trodAll_cons_mk (Below.trod laidOut (by kernel_rfl) (of_decide_eq_true (by kernel_rfl)) k6 bel lt6) (trodAll_cons_mk (Below.trod laidOut (by kernel_rfl) (of_decide_eq_true (by kernel_rfl)) k7 bel lt7) trodAll_mk0)))))))), rfl, bel.frame _, fun h => by cases h⟩

theorem proved : Rows.BlockApartSaid :=
  OpenClaim.holds_of_wide 6 Try.f6 rfl rfl rfl rfl rfl rfl rfl ⟨rfl, rfl, rfl, rfl, rfl⟩ rfl rfl rfl rfl rfl (by kernel_rfl) Try.func6 (by kernel_rfl)
    (of_decide_eq_true (by kernel_rfl)) (by unfold Func.isWrapper; first | (rw [if_pos (by decide +kernel)]; kernel_rfl) | (rw [if_neg (by decide +kernel)]; exact ⟨rfl, rfl⟩))
    (fun os started H enc _ => lifted os started H enc)
end Go.Proofs.Ythoeklcgdbbbgaa.blockApart
