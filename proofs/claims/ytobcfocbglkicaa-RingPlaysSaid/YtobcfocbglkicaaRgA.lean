/- Walks of the ring: Seal, the program's and the document's. -/
import Derived.Test.YtobcfocbglkicaaMa
import Derived.Test.YtobcfocbglkicaaMc
set_option linter.unusedVariables false
set_option maxRecDepth 100000
namespace Go.Proofs.Ytobcfocbglkicaa
open Go.RowKit

structure RoT where
  t : Int
  l : List UInt8
/-- The block of a root. -/
def rkS (t : Int) (l : List UInt8) : List UInt8 × Int :=
  if 1 ≤ t ∧ t ≤ 2147483647 then if l.length ≤ 492 then sealR 3 t (beN (fnv l) 8 ++ l) else (zB, 40) else (zB, 1)
theorem byteOf_eq {x y : Int} (h : x % 256 = y % 256) : byteOf x = byteOf y := by
  apply UInt8.toNat_inj.1
  have := byteOf_toNat x
  have := byteOf_toNat y
  omega
theorem beL_8 {n : Int} (h : 0 ≤ n) : beL n = beN n 8 := by
  simp only [beL, beN, List.cons_append, List.nil_append, List.cons.injEq, and_true, Nat.mul_zero, Nat.reduceMul]
  refine ⟨byteOf_eq ?_, byteOf_eq ?_, byteOf_eq ?_, byteOf_eq ?_, byteOf_eq ?_, byteOf_eq ?_, byteOf_eq ?_, byteOf_eq ?_⟩ <;> omega
theorem rkS_length {t : Int} {l : List UInt8} : (rkS t l).1.length = 512 := by
  unfold rkS
  split
  · split
    · exact sealR_length
    · exact zB_length
  · exact zB_length
theorem digest_b (l : List UInt8) (w : World) (hl : l.length ≤ 1000000) :
    Calls Try.prog 57 #[.string (str l)] w fun e w' => e = .returned (.int .u64 (fnv l)) ∧ Below w.heap.size w w' :=
  (digest_any l w hl).mono fun _ _ ⟨h1, h2⟩ => ⟨h1, by rw [h2]; exact Below.refl _ _⟩
theorem rdigest_b (l : List UInt8) (w : World) (hl : l.length ≤ 1000000) :
    Calls Try.prog 60 #[.string (str l)] w fun e w' => e = .returned (.int .u64 (fnv l)) ∧ Below w.heap.size w w' :=
  (rdigest_any l w hl).mono fun _ _ ⟨h1, h2⟩ => ⟨h1, by rw [h2]; exact Below.refl _ _⟩

set_option maxHeartbeats 8000000 in
theorem rgSeal_any (t : Int) (l : List UInt8) (w : World) (hl : l.length ≤ maxLen) :
    Calls Try.prog 15 #[.agg #[.int .i64 t, .string (str l)]] w fun e w' => e = .returned (bkV (rkS t l)) ∧ Below w.heap.size w w' := by
  unfold maxLen at hl
  have hs := str_size l
  have fin : ∀ S e, rkS t l = (S, e) → bkV (rkS t l) = .tuple #[.agg (bvs S).toArray, .int .i64 e] := fun S e h => by rw [h]; rfl
  have FIN := Lib.hid fin
  clear fin
  have b1 := Lib.hid (heap_alloc2_old w (.cells #[.int .i64 t, .string (str l)] 29) (.cells (bvs zB).toArray 25))
  have b2 := Lib.hid (heap_alloc2_new w (.cells #[.int .i64 t, .string (str l)] 29) (.cells (bvs zB).toArray 25))
  have hX : Below w.heap.size w ((w.alloc (.cells #[.int .i64 t, .string (str l)] 29)).alloc (.cells (bvs zB).toArray 25)) := by (repeat' (first | (with_reducible assumption) | (with_reducible exact Below.refl _ _) | (with_reducible refine below_sc ?_ ?_) | ((with_reducible show (_ : Nat) ≤ _); omega) | refine Below.setCell ?_ (by first | omega | (simp; done) | (simp; omega)) _ | refine Below.alloc ?_ (by first | omega | (simp; done) | (simp; omega)) _ | refine Below.drew ?_ | refine below_drewN ?_ _ | refine Below.trans ?_ (Below.mono (by assumption) (by first | omega | (simp; done) | (simp; omega)))))
  go_enter Try.func15, Try.ntmps15
  go_upto_region 1 with (refine wpList_al rfl 25 rfl alloc_blk ?_; simp only [Act.put])
  generalize (w.alloc (.cells #[.int .i64 t, .string (str l)] 29)).alloc (.cells (bvs zB).toArray 25) = W at *
  by_cases h0 : 1 ≤ t
  · by_cases h1 : t ≤ 2147483647
    · by_cases h2 : l.length ≤ 492
      · obtain ⟨F, hF⟩ : ∃ F, F = fnv l := ⟨_, rfl⟩
        have bF := fnv_bd l
        have kd := fun w => digest_b l w (by omega)
        have ks0 := fun w => seal_any 3 t (beN (fnv l) 8 ++ l) w (by rw [List.length_append, beN_length]; unfold maxLen; omega)
        obtain ⟨R, hR⟩ : ∃ R, R = sealR 3 t (beN (fnv l) 8 ++ l) := ⟨_, rfl⟩
        have e0 : rkS t l = R := by unfold rkS; rw [if_pos ⟨h0, h1⟩, if_pos h2, hR]
        have lR : R.1.length = 512 := by rw [hR]; exact sealR_length
        rw [← hR] at ks0
        rw [← hF] at kd bF ks0
        clear hR hF
        obtain ⟨S, E1⟩ := R
        have E := Lib.hid (FIN.out _ _ e0)
        have ks : ∀ w, Calls Try.prog 49 #[.int .u8 3, .int .i64 t, .string (str (beN F 8 ++ l))] w fun e w' => e = .returned (.tuple #[.agg (bvs S).toArray, .int .i64 E1]) ∧ Below w.heap.size w w' := ks0
        have KD := Lib.hid kd
        have KS := Lib.hid ks
        clear ks0 ks kd e0 FIN
        simp only at lR
        obtain ⟨c0, c1, -, -, ltb⟩ := blk2 b1.out
        go_wp2_with fail
        refine (KD.out _).mono ?_
        rintro e w1 ⟨rfl, hb1⟩; have hz1 := hb1.size; (try simp only [World.size_alloc] at hz1)
        have b1' := Lib.hid ((Below.block hb1 w.heap.size ltb).trans b1.out)
        have b2' := Lib.hid ((Below.block hb1 (w.heap.size + 1) (Array.getElem?_eq_some_iff.1 b2.out).1).trans b2.out)
        have X1 : Below w.heap.size w w1 := hX.trans (Below.mono hb1 hX.size)
        clear hb1 hX b1 b2 c0 c1 ltb KD
        go_wp2_with fail
        refine (Long_any (.slice none 0 0) [] F _ (.inl ⟨rfl, rfl⟩) bF.1 bF.2 (by simp)).mono ?_
        rintro e w2 ⟨v2, rfl, own2, hb2⟩
        have b1 := Lib.hid ((Below.block hb2 w.heap.size (Array.getElem?_eq_some_iff.1 b1'.out).1).trans b1'.out)
        have b2 := Lib.hid ((Below.block hb2 (w.heap.size + 1) (Array.getElem?_eq_some_iff.1 b2'.out).1).trans b2'.out)
        have X2 : Below w.heap.size w w2 := X1.trans (Below.mono hb2 X1.size)
        clear hb2 X1 b1' b2'
        have hrs := own2.rs
        rw [List.nil_append, beL_8 bF.1] at hrs
        obtain ⟨A, c, rfl⟩ := hrs.form
        have cv := convB hrs w2 (Ext.refl w2)
        have sa := str_append (beN F 8) l
        have ss := str_size (beN F 8)
        have l8 : (beN F 8).length = 8 := beN_length _ _
        rw [l8] at cv
        obtain ⟨c0, c1, -, -, ltb⟩ := blk2 b1.out
        clear hrs own2
        go_wp2_with fail
        refine (KS.out _).mono ?_
        rintro e w3 ⟨rfl, hb3⟩; have hz3 := hb3.size; (try simp only [World.size_alloc] at hz3)
        have b2' := (Below.block hb3 (w.heap.size + 1) (Array.getElem?_eq_some_iff.1 b2.out).1).trans b2.out
        have X3 : Below w.heap.size w w3 := X2.trans (Below.mono hb3 X2.size)
        have St := Lib.hid (st_blk (l := S) b2' zB_length lR)
        have B2 := Lib.hid (setRow_heap w3 (w.heap.size + 1) _ (bvs S).toArray _ _ b2')
        clear cv sa ss l8 b1 b2 X2 hb3 c0 c1 b2' ltb
        go_wp2_with (refine wpList_st rfl 25 (.tmp 2) (.tmp 31) rfl St.out ?_; simp only [Act.put])
        exact bodyPost_ret (results_cell_tmp Try.results15 _ _ _ _ _ _ _ rfl B2.out Try.underlying25 rfl (by rw [info_blk, bvs_size, lR])) rfl ⟨by rw [E.out]; first | done | rfl, below_setRow X3 (by omega) _⟩
      · have E := Lib.hid (FIN.out zB 40 (by unfold rkS; rw [if_pos ⟨h0, h1⟩, if_neg h2]))
        obtain ⟨c0, c1, -, -, ltb⟩ := blk2 b1.out
        have st := st_blk (l := zB) b2.out zB_length zB_length
        rw [setRow_self W (w.heap.size + 1) _ _ _ b2.out] at st
        have St := Lib.hid st
        clear st
        go_wp2_with (first | (refine wpList_bd rfl 25 rfl build_blk ?_; simp only [Act.put]) | (refine wpList_st rfl 25 (.tmp 2) (.tmp 18) rfl St.out ?_; simp only [Act.put]))
        exact bodyPost_ret (results_cell_tmp Try.results15 _ _ _ _ _ _ _ rfl b2.out Try.underlying25 rfl (by rw [info_blk, bvs_size, zB_length])) rfl ⟨by rw [E.out]; rfl, hX⟩
    · have E := Lib.hid (FIN.out zB 1 (by unfold rkS; rw [if_neg (fun h => h1 h.2)]))
      obtain ⟨c0, c1, -, -, ltb⟩ := blk2 b1.out
      have st := st_blk (l := zB) b2.out zB_length zB_length
      rw [setRow_self W (w.heap.size + 1) _ _ _ b2.out] at st
      have St := Lib.hid st
      clear st
      go_wp2_with (first | (refine wpList_bd rfl 25 rfl build_blk ?_; simp only [Act.put]) | (refine wpList_st rfl 25 (.tmp 2) (.tmp 13) rfl St.out ?_; simp only [Act.put]))
      exact bodyPost_ret (results_cell_tmp Try.results15 _ _ _ _ _ _ _ rfl b2.out Try.underlying25 rfl (by rw [info_blk, bvs_size, zB_length])) rfl ⟨by rw [E.out]; rfl, hX⟩
  · have E := Lib.hid (FIN.out zB 1 (by unfold rkS; rw [if_neg (fun h => h0 h.1)]))
    obtain ⟨c0, c1, -, -, ltb⟩ := blk2 b1.out
    have st := st_blk (l := zB) b2.out zB_length zB_length
    rw [setRow_self W (w.heap.size + 1) _ _ _ b2.out] at st
    have St := Lib.hid st
    clear st
    go_wp2_with (first | (refine wpList_bd rfl 25 rfl build_blk ?_; simp only [Act.put]) | (refine wpList_st rfl 25 (.tmp 2) (.tmp 13) rfl St.out ?_; simp only [Act.put]))
    exact bodyPost_ret (results_cell_tmp Try.results15 _ _ _ _ _ _ _ rfl b2.out Try.underlying25 rfl (by rw [info_blk, bvs_size, zB_length])) rfl ⟨by rw [E.out]; rfl, hX⟩

set_option maxHeartbeats 8000000 in
theorem rrgSeal_any (t : Int) (l : List UInt8) (w : World) (hl : l.length ≤ maxLen) :
    Calls Try.prog 16 #[.agg #[.int .i64 t, .string (str l)]] w fun e w' => e = .returned (bkV (rkS t l)) ∧ Below w.heap.size w w' := by
  unfold maxLen at hl
  have hs := str_size l
  have fin : ∀ S e, rkS t l = (S, e) → bkV (rkS t l) = .tuple #[.agg (bvs S).toArray, .int .i64 e] := fun S e h => by rw [h]; rfl
  have FIN := Lib.hid fin
  clear fin
  have b1 := Lib.hid (heap_alloc2_old w (.cells #[.int .i64 t, .string (str l)] 23) (.cells (bvs zB).toArray 25))
  have b2 := Lib.hid (heap_alloc2_new w (.cells #[.int .i64 t, .string (str l)] 23) (.cells (bvs zB).toArray 25))
  have hX : Below w.heap.size w ((w.alloc (.cells #[.int .i64 t, .string (str l)] 23)).alloc (.cells (bvs zB).toArray 25)) := by (repeat' (first | (with_reducible assumption) | (with_reducible exact Below.refl _ _) | (with_reducible refine below_sc ?_ ?_) | ((with_reducible show (_ : Nat) ≤ _); omega) | refine Below.setCell ?_ (by first | omega | (simp; done) | (simp; omega)) _ | refine Below.alloc ?_ (by first | omega | (simp; done) | (simp; omega)) _ | refine Below.drew ?_ | refine below_drewN ?_ _ | refine Below.trans ?_ (Below.mono (by assumption) (by first | omega | (simp; done) | (simp; omega)))))
  go_enter Try.func16, Try.ntmps16
  go_upto_region 1 with (refine wpList_al rfl 25 rfl alloc_blk ?_; simp only [Act.put])
  generalize (w.alloc (.cells #[.int .i64 t, .string (str l)] 23)).alloc (.cells (bvs zB).toArray 25) = W at *
  by_cases h0 : 1 ≤ t
  · by_cases h1 : t ≤ 2147483647
    · by_cases h2 : l.length ≤ 492
      · obtain ⟨F, hF⟩ : ∃ F, F = fnv l := ⟨_, rfl⟩
        have bF := fnv_bd l
        have kd := fun w => rdigest_b l w (by omega)
        have ks0 := fun w => rseal_any 3 t (beN (fnv l) 8 ++ l) w (by rw [List.length_append, beN_length]; unfold maxLen; omega)
        obtain ⟨R, hR⟩ : ∃ R, R = sealR 3 t (beN (fnv l) 8 ++ l) := ⟨_, rfl⟩
        have e0 : rkS t l = R := by unfold rkS; rw [if_pos ⟨h0, h1⟩, if_pos h2, hR]
        have lR : R.1.length = 512 := by rw [hR]; exact sealR_length
        rw [← hR] at ks0
        rw [← hF] at kd bF ks0
        clear hR hF
        obtain ⟨S, E1⟩ := R
        have E := Lib.hid (FIN.out _ _ e0)
        have ks : ∀ w, Calls Try.prog 58 #[.int .u8 3, .int .i64 t, .string (str (beN F 8 ++ l))] w fun e w' => e = .returned (.tuple #[.agg (bvs S).toArray, .int .i64 E1]) ∧ Below w.heap.size w w' := ks0
        have kl := fun w => rlong_any F bF.1 bF.2 w
        have ad := fun w => add_str w (beN F 8) l (by rw [beN_length]; omega)
        have KD := Lib.hid kd
        have KS := Lib.hid ks
        have KL := Lib.hid kl
        have AD := Lib.hid ad
        clear ks0 ks kd kl ad e0 FIN
        simp only at lR
        obtain ⟨c0, c1, -, -, ltb⟩ := blk2 b1.out
        have ex := fun (e : ExtOf W.heap.size W) k o (h : k < W.heap.size) => ExtOf.cellB e k o h
        go_wp2_with fail
        refine wp_region_ext_tail W.heap.size 12 (by kernel_rfl) (by kernel_rfl) ?_
        simp only [List.take_succ_cons, List.take_zero, List.drop_succ_cons, List.drop_zero]
        repeat (first | (go_big_quiet_want; refine quiet_add 9 _ (.tmp 23) (.tmp 25) rfl (fun w' _ => AD.out w') ?_; go_simp; go_big_quiet_on) | go_big_quiet_step (first | (go_at_call 60; exact ext_of (Nat.le_refl _) (KD.out _)) | (go_at_call 59; exact ext_of (Nat.le_refl _) (KL.out _)) | (go_at_call 58; exact ext_of (Nat.le_refl _) (KS.out _))))
        refine wpQuiet_nil ?_
        rintro w3 ⟨⟨_, hb3⟩, rfl⟩
        have b2' := (Below.block hb3 (w.heap.size + 1) (Array.getElem?_eq_some_iff.1 b2.out).1).trans b2.out
        have X3 : Below w.heap.size w w3 := hX.trans (Below.mono hb3 hX.size)
        have St := Lib.hid (st_blk (l := S) b2' zB_length lR)
        have B2 := Lib.hid (setRow_heap w3 (w.heap.size + 1) _ (bvs S).toArray _ _ b2')
        clear b1 b2 hX hb3 c0 c1 b2' ltb ex
        go_wp2_with (refine wpList_st rfl 25 (.tmp 2) (.tmp 28) rfl St.out ?_; simp only [Act.put])
        exact bodyPost_ret (results_cell_tmp Try.results16 _ _ _ _ _ _ _ rfl B2.out Try.underlying25 rfl (by rw [info_blk, bvs_size, lR])) rfl ⟨by rw [E.out]; first | done | rfl, below_setRow X3 (by omega) _⟩
      · have E := Lib.hid (FIN.out zB 40 (by unfold rkS; rw [if_pos ⟨h0, h1⟩, if_neg h2]))
        obtain ⟨c0, c1, -, -, ltb⟩ := blk2 b1.out
        have st := st_blk (l := zB) b2.out zB_length zB_length
        rw [setRow_self W (w.heap.size + 1) _ _ _ b2.out] at st
        have St := Lib.hid st
        clear st
        go_wp2_with (first | (refine wpList_bd rfl 25 rfl build_blk ?_; simp only [Act.put]) | (refine wpList_st rfl 25 (.tmp 2) (.tmp 17) rfl St.out ?_; simp only [Act.put]))
        exact bodyPost_ret (results_cell_tmp Try.results16 _ _ _ _ _ _ _ rfl b2.out Try.underlying25 rfl (by rw [info_blk, bvs_size, zB_length])) rfl ⟨by rw [E.out]; rfl, hX⟩
    · have E := Lib.hid (FIN.out zB 1 (by unfold rkS; rw [if_neg (fun h => h1 h.2)]))
      obtain ⟨c0, c1, -, -, ltb⟩ := blk2 b1.out
      have st := st_blk (l := zB) b2.out zB_length zB_length
      rw [setRow_self W (w.heap.size + 1) _ _ _ b2.out] at st
      have St := Lib.hid st
      clear st
      go_wp2_with (first | (refine wpList_bd rfl 25 rfl build_blk ?_; simp only [Act.put]) | (refine wpList_st rfl 25 (.tmp 2) (.tmp 12) rfl St.out ?_; simp only [Act.put]))
      exact bodyPost_ret (results_cell_tmp Try.results16 _ _ _ _ _ _ _ rfl b2.out Try.underlying25 rfl (by rw [info_blk, bvs_size, zB_length])) rfl ⟨by rw [E.out]; rfl, hX⟩
  · have E := Lib.hid (FIN.out zB 1 (by unfold rkS; rw [if_neg (fun h => h0 h.1)]))
    obtain ⟨c0, c1, -, -, ltb⟩ := blk2 b1.out
    have st := st_blk (l := zB) b2.out zB_length zB_length
    rw [setRow_self W (w.heap.size + 1) _ _ _ b2.out] at st
    have St := Lib.hid st
    clear st
    go_wp2_with (first | (refine wpList_bd rfl 25 rfl build_blk ?_; simp only [Act.put]) | (refine wpList_st rfl 25 (.tmp 2) (.tmp 12) rfl St.out ?_; simp only [Act.put]))
    exact bodyPost_ret (results_cell_tmp Try.results16 _ _ _ _ _ _ _ rfl b2.out Try.underlying25 rfl (by rw [info_blk, bvs_size, zB_length])) rfl ⟨by rw [E.out]; rfl, hX⟩
end Go.Proofs.Ytobcfocbglkicaa
