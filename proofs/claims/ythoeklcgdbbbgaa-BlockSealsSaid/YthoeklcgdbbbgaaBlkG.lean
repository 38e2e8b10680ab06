/- Walks of package block: To, Check. -/
import Derived.Test.YthoeklcgdbbbgaaBlkE
set_option linter.unusedVariables false
namespace Go.Proofs.Ythoeklcgdbbbgaa
open Go.RowKit

/-- A pointer as a value. -/
def ptV (a b s : Int) : Value := .agg #[.int .i64 a, .int .i64 b, .int .u64 s]
structure PtT where
  a : Int
  b : Int
  s : Int
def PtT.v (p : PtT) : Value := ptV p.a p.b p.s
/-- What To answers. -/
def toR (at_ : Int) (l : List UInt8) : PtT × Int :=
  if (openR l).e = 0 then if 1 ≤ at_ ∧ at_ < 8192 then (⟨at_, (openR l).b, fnv l⟩, 0) else (⟨0, 0, 0⟩, 1) else (⟨0, 0, 0⟩, (openR l).e)
def toV (r : PtT × Int) : Value := .tuple #[r.1.v, .int .i64 r.2]
structure CkT where
  k : UInt8
  s : List UInt8
  e : Int
/-- What Check answers. -/
def ckR (p : PtT) (l : List UInt8) : CkT :=
  if p.a = 0 ∨ fnv l ≠ p.s then ⟨0, [], 52⟩ else if (openR l).e ≠ 0 then ⟨0, [], (openR l).e⟩ else if (openR l).b ≠ p.b then ⟨0, [], 52⟩ else ⟨(openR l).k, (openR l).s, 0⟩
def CkT.v (r : CkT) : Value := .tuple #[.int .u8 r.k.toNat, .string (str r.s), .int .i64 r.e]

set_option maxHeartbeats 8000000 in
set_option maxRecDepth 100000 in
theorem to_any (at_ : Int) (l : List UInt8) (hl : l.length = 512) (w : World) :
    Calls Try.prog 17 #[.int .i64 at_, .agg (bvs l).toArray] w fun e w' => e = .returned (toV (toR at_ l)) ∧ Below w.heap.size w w' := by
  have fin : ∀ r, toR at_ l = r → toV (toR at_ l) = .tuple #[.agg #[.int .i64 r.1.a, .int .i64 r.1.b, .int .u64 r.1.s], .int .i64 r.2] := fun r h => by rw [h]; rfl
  have FIN := Lib.hid fin
  clear fin
  have ld := Lib.hid (ld_blk (heap_alloc2_old w (.cells (bvs l).toArray 23) (.cells #[.int .i64 0, .int .i64 0, .int .u64 0] 26)) hl)
  have hB : Below w.heap.size w ((w.alloc (.cells (bvs l).toArray 23)).alloc (.cells #[.int .i64 0, .int .i64 0, .int .u64 0] 26)) := by (repeat' (first | (with_reducible assumption) | (with_reducible exact Below.refl _ _) | (with_reducible refine below_sc ?_ ?_) | ((with_reducible show (_ : Nat) ≤ _); omega) | refine Below.setCell ?_ (by first | omega | (simp; done) | (simp; omega)) _ | refine Below.alloc ?_ (by first | omega | (simp; done) | (simp; omega)) _ | refine Below.drew ?_ | refine below_drewN ?_ _ | refine Below.trans ?_ (Below.mono (by assumption) (by first | omega | (simp; done) | (simp; omega)))))
  obtain ⟨R, hR⟩ : ∃ R, R = openR l := ⟨_, rfl⟩
  have ko := fun w => open_any l hl w
  have f0 : R.e ≠ 0 → toR at_ l = (⟨0, 0, 0⟩, R.e) := fun h => by unfold toR; rw [← hR, if_neg h]
  have f1 : R.e = 0 → ¬ (1 ≤ at_ ∧ at_ < 8192) → toR at_ l = (⟨0, 0, 0⟩, 1) := fun h h2 => by unfold toR; rw [← hR, if_pos h, if_neg h2]
  have f2 : R.e = 0 → 1 ≤ at_ ∧ at_ < 8192 → toR at_ l = (⟨at_, R.b, fnv l⟩, 0) := fun h h2 => by unfold toR; rw [← hR, if_pos h, if_pos h2]
  rw [← hR] at ko
  clear hR
  obtain ⟨k, b, s, E⟩ := R
  have ko' : ∀ w, Calls Try.prog 13 #[.agg (bvs l).toArray] w fun e w' => e = .returned (.tuple #[.int .u8 k.toNat, .int .i64 b, .string (str s), .int .i64 E]) ∧ Below w.heap.size w w' := ko
  have KO := Lib.hid ko'
  have F0 := Lib.hid f0
  have F1 := Lib.hid f1
  have F2 := Lib.hid f2
  clear ko ko' f0 f1 f2
  go_enter Try.func17, Try.ntmps17
  go_wp2_with (refine wpList_ld rfl 23 (.tmp 3) rfl ld.out ?_; simp only [Act.put])
  refine (KO.out _).mono ?_
  rintro e w1 ⟨rfl, hb1⟩; have hz1 := hb1.size; (try simp only [World.size_alloc] at hz1)
  have b3 := (hb1.block w.heap.size (by first | omega | (simp; done) | (simp; omega))).trans (heap_alloc2_old w (.cells (bvs l).toArray 23) (.cells #[.int .i64 0, .int .i64 0, .int .u64 0] 26))
  have b4 := (hb1.block (w.heap.size + 1) (by first | omega | (simp; done) | (simp; omega))).trans (heap_alloc2_new w (.cells (bvs l).toArray 23) (.cells #[.int .i64 0, .int .i64 0, .int .u64 0] 26))
  have X1 : Below w.heap.size w w1 := hB.trans (hb1.mono (by first | omega | (simp; done) | (simp; omega)))
  have ld2 := Lib.hid (ld_blk b3 hl)
  obtain ⟨c0, c1, c2, q0, q1, q2, lt4⟩ := blk3 b4
  have B4 := Lib.hid b4
  clear b3 b4 hb1 hB ld KO
  by_cases hE : E = 0
  · subst hE
    by_cases ha : 1 ≤ at_
    · by_cases hc : at_ < 8192
      · have e := Lib.hid (FIN.out _ (F2.out rfl ⟨ha, hc⟩))
        go_wp2_with (refine wpList_ld rfl 23 (.tmp 3) rfl ld2.out ?_; simp only [Act.put])
        refine (sum_any l hl _).mono ?_
        rintro e w2 ⟨rfl, hb2⟩; have hz2 := hb2.size; (try simp only [World.size_alloc] at hz2)
        have b4 := (hb2.block (w.heap.size + 1) lt4).trans B4.out
        have X2 : Below w.heap.size w w2 := X1.trans (hb2.mono X1.size)
        obtain ⟨c0, c1, c2, q0, q1, q2, lt5⟩ := blk3 b4
        clear b4 hb2 B4 X1
        go_wp2_with fail
        exact bodyPost_ret (v := .tuple #[.agg #[.int .i64 at_, .int .i64 b, .int .u64 (fnv l)], .int .i64 0]) (by simp only [results, Try.results17]; go_simp) rfl ⟨by rw [e.out], by (repeat' (first | (with_reducible assumption) | (with_reducible refine below_sc ?_ ?_) | (with_reducible refine Below.alloc ?_ ?_ _) | omega))⟩
      · have e := Lib.hid (FIN.out _ (F1.out rfl (fun h => hc h.2)))
        go_wp2_with fail
        exact bodyPost_ret (v := .tuple #[.agg #[.int .i64 0, .int .i64 0, .int .u64 0], .int .i64 1]) (by simp only [results, Try.results17]; go_simp) rfl ⟨by rw [e.out], by (repeat' (first | (with_reducible assumption) | (with_reducible refine below_sc ?_ ?_) | (with_reducible refine Below.alloc ?_ ?_ _) | omega))⟩
    · have e := Lib.hid (FIN.out _ (F1.out rfl (fun h => ha h.1)))
      go_wp2_with fail
      exact bodyPost_ret (v := .tuple #[.agg #[.int .i64 0, .int .i64 0, .int .u64 0], .int .i64 1]) (by simp only [results, Try.results17]; go_simp) rfl ⟨by rw [e.out], by (repeat' (first | (with_reducible assumption) | (with_reducible refine below_sc ?_ ?_) | (with_reducible refine Below.alloc ?_ ?_ _) | omega))⟩
  · have z1 : (E != 0) = true := bne_iff_ne.2 hE
    have z2 : (E == 0) = false := beq_eq_false_iff_ne.2 hE
    have e := Lib.hid (FIN.out _ (F0.out hE))
    go_wp2_with fail
    exact bodyPost_ret (v := .tuple #[.agg #[.int .i64 0, .int .i64 0, .int .u64 0], .int .i64 E]) (by simp only [results, Try.results17]; go_simp) rfl ⟨by rw [e.out], by (repeat' (first | (with_reducible assumption) | (with_reducible refine below_sc ?_ ?_) | (with_reducible refine Below.alloc ?_ ?_ _) | omega))⟩
end Go.Proofs.Ythoeklcgdbbbgaa
