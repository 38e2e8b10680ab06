/- Walks of the document's block: To, Check. -/
import Derived.Test.YthoeklcgdbbbgaaBlkF
import Derived.Test.YthoeklcgdbbbgaaBlkH
set_option linter.unusedVariables false
namespace Go.Proofs.Ythoeklcgdbbbgaa
open Go.RowKit

set_option maxHeartbeats 8000000 in
set_option maxRecDepth 100000 in
theorem rto_any (at_ : Int) (l : List UInt8) (hl : l.length = 512) (w : World) :
    Calls Try.prog 18 #[.int .i64 at_, .agg (bvs l).toArray] w fun e w' => e = .returned (toV (toR at_ l)) ∧ Below w.heap.size w w' := by
  have fin : ∀ r, toR at_ l = r → toV (toR at_ l) = .tuple #[.agg #[.int .i64 r.1.a, .int .i64 r.1.b, .int .u64 r.1.s], .int .i64 r.2] := fun r h => by rw [h]; rfl
  have FIN := Lib.hid fin
  clear fin
  have ld := Lib.hid (ld_blk (heap_alloc2_old w (.cells (bvs l).toArray 23) (.cells #[.int .i64 0, .int .i64 0, .int .u64 0] 26)) hl)
  have hB : Below w.heap.size w ((w.alloc (.cells (bvs l).toArray 23)).alloc (.cells #[.int .i64 0, .int .i64 0, .int .u64 0] 26)) := by (repeat' (first | (with_reducible assumption) | (with_reducible exact Below.refl _ _) | (with_reducible refine below_sc ?_ ?_) | ((with_reducible show (_ : Nat) ≤ _); omega) | refine Below.setCell ?_ (by first | omega | (simp; done) | (simp; omega)) _ | refine Below.alloc ?_ (by first | omega | (simp; done) | (simp; omega)) _ | refine Below.drew ?_ | refine below_drewN ?_ _ | refine Below.trans ?_ (Below.mono (by assumption) (by first | omega | (simp; done) | (simp; omega)))))
  obtain ⟨R, hR⟩ : ∃ R, R = openR l := ⟨_, rfl⟩
  have ko := fun w => ropen_any l hl w
  have f0 : R.e ≠ 0 → toR at_ l = (⟨0, 0, 0⟩, R.e) := fun h => by unfold toR; rw [← hR, if_neg h]
  have f1 : R.e = 0 → ¬ (1 ≤ at_ ∧ at_ < 8192) → toR at_ l = (⟨0, 0, 0⟩, 1) := fun h h2 => by unfold toR; rw [← hR, if_pos h, if_neg h2]
  have f2 : R.e = 0 → 1 ≤ at_ ∧ at_ < 8192 → toR at_ l = (⟨at_, R.b, fnv l⟩, 0) := fun h h2 => by unfold toR; rw [← hR, if_pos h, if_pos h2]
  rw [← hR] at ko
  clear hR
  obtain ⟨k, b, s, E⟩ := R
  have ko' : ∀ w, Calls Try.prog 14 #[.agg (bvs l).toArray] w fun e w' => e = .returned (.tuple #[.int .u8 k.toNat, .int .i64 b, .string (str s), .int .i64 E]) ∧ Below w.heap.size w w' := ko
  have KO := Lib.hid ko'
  have F0 := Lib.hid f0
  have F1 := Lib.hid f1
  have F2 := Lib.hid f2
  clear ko ko' f0 f1 f2
  go_enter Try.func18, Try.ntmps18
  go_wp2_with (refine wpList_ld rfl 23 (.tmp 3) rfl ld.out ?_; simp only [Act.put])
  refine (KO.out _).mono ?_
  rintro e w1 ⟨rfl, hb1⟩; have hz1 := hb1.size; (try simp only [World.size_alloc] at hz1)
  have b3 := (hb1.block w.heap.size (by first | omega | (simp; done) | (simp; omega))).trans (heap_alloc2_old w (.cells (bvs l).toArray 23) (.cells #[.int .i64 0, .int .i64 0, .int .u64 0] 26))
  have b4 := (hb1.block (w.heap.size + 1) (by first | omega | (simp; done) | (simp; omega))).trans (heap_alloc2_new w (.cells (bvs l).toArray 23) (.cells #[.int .i64 0, .int .i64 0, .int .u64 0] 26))
  have X1 : Below w.heap.size w w1 := hB.trans (hb1.mono (by first | omega | (simp; done) | (simp; omega)))
  have ld2 := Lib.hid (ld_blk b3 hl)
  obtain ⟨c0, c1, c2, q0, q1, q2, lt4⟩ := blk3 b4
  have B4 := Lib.hid b4
  clear b3 b4 hb1 hB ld KO
  by_cases hE : E = 0
  · subst hE
    by_cases ha : 1 ≤ at_
    · by_cases hc : at_ < 8192
      · have e := Lib.hid (FIN.out _ (F2.out rfl ⟨ha, hc⟩))
        go_wp2_with (refine wpList_ld rfl 23 (.tmp 3) rfl ld2.out ?_; simp only [Act.put])
        refine (rsum_any l hl _).mono ?_
        rintro e w2 ⟨rfl, hb2⟩; have hz2 := hb2.size; (try simp only [World.size_alloc] at hz2)
        have b4 := (hb2.block (w.heap.size + 1) lt4).trans B4.out
        have X2 : Below w.heap.size w w2 := X1.trans (hb2.mono X1.size)
        obtain ⟨c0, c1, c2, q0, q1, q2, lt5⟩ := blk3 b4
        clear b4 hb2 B4 X1
        go_wp2_with fail
        exact bodyPost_ret (v := .tuple #[.agg #[.int .i64 at_, .int .i64 b, .int .u64 (fnv l)], .int .i64 0]) (by simp only [results, Try.results18]; go_simp) rfl ⟨by rw [e.out], by (repeat' (first | (with_reducible assumption) | (with_reducible refine below_sc ?_ ?_) | (with_reducible refine Below.alloc ?_ ?_ _) | omega))⟩
      · have e := Lib.hid (FIN.out _ (F1.out rfl (fun h => hc h.2)))
        go_wp2_with fail
        exact bodyPost_ret (v := .tuple #[.agg #[.int .i64 0, .int .i64 0, .int .u64 0], .int .i64 1]) (by simp only [results, Try.results18]; go_simp) rfl ⟨by rw [e.out], by (repeat' (first | (with_reducible assumption) | (with_reducible refine below_sc ?_ ?_) | (with_reducible refine Below.alloc ?_ ?_ _) | omega))⟩
    · have e := Lib.hid (FIN.out _ (F1.out rfl (fun h => ha h.1)))
      go_wp2_with fail
      exact bodyPost_ret (v := .tuple #[.agg #[.int .i64 0, .int .i64 0, .int .u64 0], .int .i64 1]) (by simp only [results, Try.results18]; go_simp) rfl ⟨by rw [e.out], by (repeat' (first | (with_reducible assumption) | (with_reducible refine below_sc ?_ ?_) | (with_reducible refine Below.alloc ?_ ?_ _) | omega))⟩
  · have z1 : (E != 0) = true := bne_iff_ne.2 hE
    have z2 : (E == 0) = false := beq_eq_false_iff_ne.2 hE
    have e := Lib.hid (FIN.out _ (F0.out hE))
    go_wp2_with fail
    exact bodyPost_ret (v := .tuple #[.agg #[.int .i64 0, .int .i64 0, .int .u64 0], .int .i64 E]) (by simp only [results, Try.results18]; go_simp) rfl ⟨by rw [e.out], by (repeat' (first | (with_reducible assumption) | (with_reducible refine below_sc ?_ ?_) | (with_reducible refine Below.alloc ?_ ?_ _) | omega))⟩
set_option maxHeartbeats 8000000 in
set_option maxRecDepth 100000 in
theorem rcheck_any (a b s : Int) (l : List UInt8) (hl : l.length = 512) (w : World) :
    Calls Try.prog 20 #[.agg #[.int .i64 a, .int .i64 b, .int .u64 s], .agg (bvs l).toArray] w fun e w' => e = .returned (ckR ⟨a, b, s⟩ l).v ∧ Below w.heap.size w w' := by
  have fin : ∀ r, ckR ⟨a, b, s⟩ l = r → (ckR ⟨a, b, s⟩ l).v = .tuple #[.int .u8 r.k.toNat, .string (str r.s), .int .i64 r.e] := fun r h => by rw [h]; rfl
  have FIN := Lib.hid fin
  clear fin
  obtain ⟨R, hR⟩ : ∃ R, R = openR l := ⟨_, rfl⟩
  have ko := fun w => ropen_any l hl w
  have f0 : a = 0 ∨ fnv l ≠ s → ckR ⟨a, b, s⟩ l = ⟨0, [], 52⟩ := fun h => by unfold ckR; rw [if_pos h]
  have f1 : a ≠ 0 → fnv l = s → R.e ≠ 0 → ckR ⟨a, b, s⟩ l = ⟨0, [], R.e⟩ := fun h h2 h3 => by unfold ckR; rw [if_neg (by simp [h, h2]), ← hR, if_pos h3]
  have f2 : a ≠ 0 → fnv l = s → R.e = 0 → R.b ≠ b → ckR ⟨a, b, s⟩ l = ⟨0, [], 52⟩ := fun h h2 h3 h4 => by unfold ckR; rw [if_neg (by simp [h, h2]), ← hR, if_neg (by simp [h3]), if_pos h4]
  have f3 : a ≠ 0 → fnv l = s → R.e = 0 → R.b = b → ckR ⟨a, b, s⟩ l = ⟨R.k, R.s, 0⟩ := fun h h2 h3 h4 => by unfold ckR; rw [if_neg (by simp [h, h2]), ← hR, if_neg (by simp [h3]), if_neg (by simp [h4])]
  rw [← hR] at ko
  clear hR
  obtain ⟨k, b', s', E⟩ := R
  have ko' : ∀ w, Calls Try.prog 14 #[.agg (bvs l).toArray] w fun e w' => e = .returned (.tuple #[.int .u8 k.toNat, .int .i64 b', .string (str s'), .int .i64 E]) ∧ Below w.heap.size w w' := ko
  have KO := Lib.hid ko'
  have F0 := Lib.hid f0
  have F1 := Lib.hid f1
  have F2 := Lib.hid f2
  have F3 := Lib.hid f3
  clear ko ko' f0 f1 f2 f3
  have hB : Below w.heap.size w ((w.alloc (.cells #[.int .i64 a, .int .i64 b, .int .u64 s] 26)).alloc (.cells (bvs l).toArray 23)) := by (repeat' (first | (with_reducible assumption) | (with_reducible exact Below.refl _ _) | (with_reducible refine below_sc ?_ ?_) | ((with_reducible show (_ : Nat) ≤ _); omega) | refine Below.setCell ?_ (by first | omega | (simp; done) | (simp; omega)) _ | refine Below.alloc ?_ (by first | omega | (simp; done) | (simp; omega)) _ | refine Below.drew ?_ | refine below_drewN ?_ _ | refine Below.trans ?_ (Below.mono (by assumption) (by first | omega | (simp; done) | (simp; omega)))))
  have b2 := heap_alloc2_old w (.cells #[.int .i64 a, .int .i64 b, .int .u64 s] 26) (.cells (bvs l).toArray 23)
  have b3 := heap_alloc2_new w (.cells #[.int .i64 a, .int .i64 b, .int .u64 s] 26) (.cells (bvs l).toArray 23)
  have hz : w.heap.size + 2 ≤ ((w.alloc (.cells #[.int .i64 a, .int .i64 b, .int .u64 s] 26)).alloc (.cells (bvs l).toArray 23)).heap.size := by simp
  go_enter Try.func20, Try.ntmps20
  go_wp2_with fail
  generalize (w.alloc (.cells #[.int .i64 a, .int .i64 b, .int .u64 s] 26)).alloc (.cells (bvs l).toArray 23) = W at *
  obtain ⟨c0, c1, c2, -, -, -, lt2⟩ := blk3 b2
  have hld : ∀ w', (∃ e : ExtOf (w.heap.size + 2) W, w' = e.val) → (Instr.loadAt 23 (.pointer (some ⟨w.heap.size + 1, 0, none⟩))).run Try.prog w' = .ok (.agg (bvs l).toArray) w' := by
    rintro _ ⟨e, rfl⟩
    exact ld_blk ((e.ok.block _ (by omega)).trans b3) hl
  have Hld := Lib.hid hld
  have B2 := Lib.hid b2
  have B3 := Lib.hid b3
  clear hld b2 b3
  by_cases ha : a = 0
  · subst ha
    have e := Lib.hid (FIN.out _ (F0.out (.inl rfl)))
    have ex := fun (e : ExtOf (w.heap.size + 2) W) k o (h : k < w.heap.size + 2) => ExtOf.cellB e k o h
    have g0 : w.heap.size < w.heap.size + 2 := by omega
    refine wp_region_ext (w.heap.size + 2) (by kernel_rfl) (by kernel_rfl) ?_
    repeat (first | (go_big_quiet_want; refine quiet_ld 23 (.tmp 3) rfl Hld.out ?_; go_simp; go_big_quiet_on) | go_big_quiet_step ((go_at_call 16; exact ext_of hz (rsum_any l hl _))))
    refine wpQuiet_nil ?_
    rintro w2 ⟨⟨_, hb2⟩, rfl⟩
    go_wp2_with fail
    exact bodyPost_ret (v := .tuple #[.int .u8 0, .string ⟨#[]⟩, .int .i64 52]) (by simp only [results, Try.results20]; go_simp) rfl ⟨by rw [e.out]; rfl, hB.trans (hb2.mono (by omega))⟩
  · have z1 : (a == 0) = false := beq_eq_false_iff_ne.2 ha
    by_cases hs : fnv l = s
    · subst hs
      have ex := fun (e : ExtOf (w.heap.size + 2) W) k o (h : k < w.heap.size + 2) => ExtOf.cellB e k o h
      have g0 : w.heap.size < w.heap.size + 2 := by omega
      refine wp_region_ext (w.heap.size + 2) (by kernel_rfl) (by kernel_rfl) ?_
      repeat (first | (go_big_quiet_want; refine quiet_ld 23 (.tmp 3) rfl Hld.out ?_; go_simp; go_big_quiet_on) | go_big_quiet_step ((go_at_call 16; exact ext_of hz (rsum_any l hl _))))
      refine wpQuiet_nil ?_
      rintro w2 ⟨⟨_, hb2⟩, rfl⟩
      have ld := Lib.hid (ld_blk ((hb2.block (w.heap.size + 1) (by omega)).trans B3.out) hl)
      have b2 := Lib.hid ((hb2.block w.heap.size (by omega)).trans B2.out)
      have X2 : Below w.heap.size w w2 := hB.trans (hb2.mono (by omega))
      have lt3 : w.heap.size < w2.heap.size := Nat.lt_of_lt_of_le lt2 hb2.size
      clear ex hb2 hB Hld B3 B2 c0 c1 c2
      go_wp2_with (refine wpList_ld rfl 23 (.tmp 3) rfl ld.out ?_; simp only [Act.put])
      refine (KO.out _).mono ?_
      rintro e w3 ⟨rfl, hb3⟩; have hz3 := hb3.size; (try simp only [World.size_alloc] at hz3)
      have X3 : Below w.heap.size w w3 := X2.trans (hb3.mono X2.size)
      obtain ⟨c0, c1, c2, -, -, -, lt4⟩ := blk3 ((hb3.block w.heap.size lt3).trans b2.out)
      clear hb3 X2 b2 ld KO
      by_cases hE : E = 0
      · subst hE
        by_cases hb : b' = b
        · subst hb
          have e := Lib.hid (FIN.out _ (F3.out ha (by first | trivial | rfl) (by first | trivial | rfl) (by first | trivial | rfl)))
          go_wp2_with fail
          exact bodyPost_ret (v := .tuple #[.int .u8 k.toNat, .string (str s'), .int .i64 0]) (by simp only [results, Try.results20]; go_simp) rfl ⟨by rw [e.out], X3⟩
        · have z2 : (b' != b) = true := bne_iff_ne.2 hb
          have e := Lib.hid (FIN.out _ (F2.out ha (by first | trivial | rfl) (by first | trivial | rfl) hb))
          go_wp2_with fail
          exact bodyPost_ret (v := .tuple #[.int .u8 0, .string ⟨#[]⟩, .int .i64 52]) (by simp only [results, Try.results20]; go_simp) rfl ⟨by rw [e.out]; rfl, X3⟩
      · have z2 : (E != 0) = true := bne_iff_ne.2 hE
        have z3 : (E == 0) = false := beq_eq_false_iff_ne.2 hE
        have e := Lib.hid (FIN.out _ (F1.out ha (by first | trivial | rfl) hE))
        go_wp2_with fail
        exact bodyPost_ret (v := .tuple #[.int .u8 0, .string ⟨#[]⟩, .int .i64 E]) (by simp only [results, Try.results20]; go_simp) rfl ⟨by rw [e.out]; rfl, X3⟩
    · have z2 : (fnv l != s) = true := bne_iff_ne.2 hs
      have e := Lib.hid (FIN.out _ (F0.out (.inr hs)))
      have ex := fun (e : ExtOf (w.heap.size + 2) W) k o (h : k < w.heap.size + 2) => ExtOf.cellB e k o h
      have g0 : w.heap.size < w.heap.size + 2 := by omega
      refine wp_region_ext (w.heap.size + 2) (by kernel_rfl) (by kernel_rfl) ?_
      repeat (first | (go_big_quiet_want; refine quiet_ld 23 (.tmp 3) rfl Hld.out ?_; go_simp; go_big_quiet_on) | go_big_quiet_step ((go_at_call 16; exact ext_of hz (rsum_any l hl _))))
      refine wpQuiet_nil ?_
      rintro w2 ⟨⟨_, hb2⟩, rfl⟩
      go_wp2_with fail
      exact bodyPost_ret (v := .tuple #[.int .u8 0, .string ⟨#[]⟩, .int .i64 52]) (by simp only [results, Try.results20]; go_simp) rfl ⟨by rw [e.out]; rfl, hB.trans (hb2.mono (by omega))⟩
end Go.Proofs.Ythoeklcgdbbbgaa
