/- Plain: what is read of bytes is written by these bytes (for BlockBack). -/
import Derived.Test.YtobcfocbglkicaaBlkL
set_option linter.unusedVariables false
set_option maxRecDepth 100000
namespace Go.Proofs.Ytobcfocbglkicaa
open Go.RowKit

theorem byte_of {x : Int} {b : UInt8} (h : x % 256 = b.toNat) : byteOf x = b := by
  apply UInt8.toNat_inj.1
  have := byteOf_toNat x
  omega
theorem be_nB4 : ∀ (m : List UInt8), m.length = 4 → beN (nB m) 4 = m
  | [p, q, r, t], _ => by
    have pb := p.toNat_lt
    have qb := q.toNat_lt
    have rb := r.toNat_lt
    have tb := t.toNat_lt
    simp only [nB, List.foldl_cons, List.foldl_nil, beN, List.cons.injEq, and_true]
    refine ⟨byte_of ?_, byte_of ?_, byte_of ?_, byte_of ?_⟩ <;> omega
theorem open_ok {l : List UInt8} (h : (openR l).e = 0) : sealR (openR l).k (openR l).b (openR l).s = (l, 0) := by
  unfold openR at h ⊢
  split at h
  · rename_i h1
    split at h
    · rename_i h2
      rw [if_pos h1, if_pos h2]
      exact h2
    · simp at h
  · simp at h
theorem be_nB8 : ∀ (m : List UInt8), m.length = 8 → beN (nB m) 8 = m
  | [p, q, r, t, p', q', r', t'], _ => by
    have pb := p.toNat_lt
    have qb := q.toNat_lt
    have rb := r.toNat_lt
    have tb := t.toNat_lt
    have pb' := p'.toNat_lt
    have qb' := q'.toNat_lt
    have rb' := r'.toNat_lt
    have tb' := t'.toNat_lt
    simp only [nB, List.foldl_cons, List.foldl_nil, beN, List.cons.injEq, and_true]
    refine ⟨byte_of ?_, byte_of ?_, byte_of ?_, byte_of ?_, byte_of ?_, byte_of ?_, byte_of ?_, byte_of ?_⟩ <;> omega
/-- The pointer of bytes has these bytes. -/
theorem dec_back {l : List UInt8} (h : (pDec l).2 = 0) : pEnc (pDec l).1.a (pDec l).1.b (pDec l).1.s = (l, 0) := by
  unfold pDec at h ⊢
  split at h
  · rename_i h1
    obtain ⟨h1, h2⟩ := h1
    rw [if_pos ⟨h1, h2⟩]
    unfold pEnc
    simp only
    rw [if_pos h2]
    have e0 : beN (nAt l 0 4) 4 = (l.drop 0).take 4 := be_nB4 _ (by simp; omega)
    have e4 : beN (nAt l 4 4) 4 = (l.drop 4).take 4 := be_nB4 _ (by simp; omega)
    have e8 : beN (nAt l 8 8) 8 = (l.drop 8).take 8 := be_nB8 _ (by simp; omega)
    unfold pBytes
    rw [e0, e4, e8, List.drop_zero, List.take_of_length_le (l := l.drop 8) (by simp; omega)]
    have a1 : l.take 4 ++ (l.drop 4).take 4 = l.take 8 := by rw [← List.take_add]
    rw [a1, List.take_append_drop]
  · simp at h
end Go.Proofs.Ytobcfocbglkicaa
