/- Roots: what was sealed is opened so, and so on. In plain Lean. -/
import Derived.Test.YtobcfocbglkicaaRgF
import Derived.Test.YtobcfocbglkicaaMc
set_option linter.unusedVariables false
set_option maxRecDepth 100000
namespace Go.Proofs.Ytobcfocbglkicaa
open Go.RowKit

def rtS (l : List UInt8) : List UInt8 := beN (fnv l) 8 ++ l
theorem rkS_ok {t : Int} {l S : List UInt8} (h : rkS t l = (S, 0)) : 1 ≤ t ∧ t ≤ 2147483647 ∧ l.length ≤ 492 ∧ S = sealL 3 t (rtS l) := by
  unfold rkS at h
  split at h
  · rename_i h1
    split at h
    · rename_i h2
      have e : (sealR 3 t (beN (fnv l) 8 ++ l)).2 = 0 := by rw [h]
      obtain ⟨_, _, _, h3⟩ := sealR_ok e
      exact ⟨h1.1, h1.2, h2, by rw [h] at h3; exact h3⟩
    · simp at h
  · simp at h
theorem rtS_length (l : List UInt8) : (rtS l).length = 8 + l.length := by simp [rtS, beN_length]
theorem rkO_seal {t : Int} {s : List UInt8} (h0 : 1 ≤ t) (h1 : t ≤ 2147483647) (h2 : s.length ≤ 500) (h8 : 8 ≤ s.length) : rkO (sealL 3 t s) = if s.take 8 = beN (fnv (s.drop 8)) 8 then (⟨t, s.drop 8⟩, 0) else (⟨0, []⟩, 52) := by
  unfold rkO
  rw [open_seal (by omega) h1 h2]
  exact if_pos ⟨rfl, rfl, h8, h0⟩
theorem rkO_back {t : Int} {l S : List UInt8} (h : rkS t l = (S, 0)) : rkO S = (⟨t, l⟩, 0) := by
  obtain ⟨h0, h1, h2, rfl⟩ := rkS_ok h
  have hl := rtS_length l
  have e1 : (rtS l).take 8 = beN (fnv l) 8 := by
    unfold rtS
    rw [List.take_append_of_le_length (by simp [beN_length]), List.take_of_length_le (by simp [beN_length])]
  have e2 : (rtS l).drop 8 = l := by
    unfold rtS
    rw [List.drop_append_of_le_length (by simp [beN_length]), List.drop_eq_nil_of_le (by simp [beN_length])]
    rfl
  rw [rkO_seal h0 h1 (by omega) (by omega), e1, e2, if_pos rfl]
theorem sealL_set {k : UInt8} {b : Int} {s : List UInt8} {i : Nat} (hi : i < s.length) (c : UInt8) : (sealL k b s).set (12 + i) c = sealL k b (s.set i c) := by
  unfold sealL pad
  rw [List.length_set, List.set_append_left _ _ (by rw [List.length_append, hdr_length]; omega), List.set_append_right _ _ (by rw [hdr_length]; omega), hdr_length, Nat.add_sub_cancel_left]
  simp only [List.length_append, List.length_set]
theorem sealL_get {k : UInt8} {b : Int} {s : List UInt8} {i : Nat} (hi : i < s.length) : (sealL k b s)[12 + i]? = some s[i] := by
  unfold sealL pad
  rw [List.getElem?_append_left (by rw [List.length_append, hdr_length]; omega), List.getElem?_append_right (by rw [hdr_length]; omega), hdr_length, Nat.add_sub_cancel_left, List.getElem?_eq_getElem hi]
/-- Another byte in the place of one of the sum's, or the body's. -/
theorem rkO_set {t : Int} {l S : List UInt8} (h : rkS t l = (S, 0)) {i : Nat} (hi : i < 8 + l.length) (c : UInt8) : ∃ was, S[12 + i]? = some was ∧ ((c = was ∧ rkO (S.set (12 + i) c) = (⟨t, l⟩, 0)) ∨ (c ≠ was ∧ rkO (S.set (12 + i) c) = (⟨0, []⟩, 52))) := by
  have hb := rkO_back h
  obtain ⟨h0, h1, h2, rfl⟩ := rkS_ok h
  have hl := rtS_length l
  have hi' : i < (rtS l).length := by omega
  refine ⟨(rtS l)[i], sealL_get hi', ?_⟩
  by_cases hc : c = (rtS l)[i]
  · refine .inl ⟨hc, ?_⟩
    rw [sealL_set hi', hc, List.set_getElem_self]
    exact hb
  · refine .inr ⟨hc, ?_⟩
    rw [sealL_set hi', rkO_seal h0 h1 (by rw [List.length_set]; omega) (by rw [List.length_set]; omega), if_neg]
    intro he
    have hB := beN_length (fnv l) 8
    have bF := fnv_bd l
    have g := List.getElem?_eq_getElem hi'
    by_cases h8 : i < 8
    · have e1 : (rtS l)[i]? = (beN (fnv l) 8)[i]? := by unfold rtS; exact List.getElem?_append_left (by omega)
      unfold rtS at he
      rw [List.set_append_left _ _ (by omega), List.take_append_of_le_length (by rw [List.length_set]; omega), List.take_of_length_le (by rw [List.length_set]; omega), List.drop_append_of_le_length (by rw [List.length_set]; omega), List.drop_eq_nil_of_le (by rw [List.length_set]; omega), List.nil_append] at he
      have := congrArg (fun x => x[i]?) he
      simp only [List.getElem?_set, hB, h8, if_true] at this
      rw [← e1, g] at this
      exact hc (by simpa using this)
    · have hlt : i - 8 < l.length := by omega
      have e1 : (rtS l)[i]? = l[i - 8]? := by unfold rtS; rw [List.getElem?_append_right (by omega), hB]
      unfold rtS at he
      rw [List.set_append_right _ _ (by omega), hB, List.take_append_of_le_length (by omega), List.take_of_length_le (by omega), List.drop_append_of_le_length (by omega), List.drop_eq_nil_of_le (by omega), List.nil_append] at he
      have hne : l[i - 8] ≠ c := fun e => hc (by rw [g, List.getElem?_eq_getElem hlt] at e1; rw [Option.some.inj e1, e])
      have hf := fnv_set hlt hne
      have bF' := fnv_bd (l.set (i - 8) c)
      apply hf
      rw [← nB_be8' bF'.1 bF'.2, ← he, nB_be8' bF.1 bF.2]
theorem rkO_ok {B : List UInt8} {t : Int} {l : List UInt8} (h : rkO B = (⟨t, l⟩, 0)) : rkS t l = (B, 0) ∧ l.length ≤ 492 := by
  unfold rkO at h
  split at h
  · rename_i h1
    obtain ⟨he, hk, h8, hb⟩ := h1
    split at h
    · rename_i h2
      simp only [Prod.mk.injEq, RoT.mk.injEq, and_true] at h
      obtain ⟨rfl, rfl⟩ := h
      have ho := open_ok he
      have hs : (sealR (openR B).k (openR B).b (openR B).s).2 = 0 := by rw [ho]
      obtain ⟨a0, a1, a2, a3⟩ := sealR_ok hs
      have hl : ((openR B).s.drop 8).length ≤ 492 := by simp; omega
      refine ⟨?_, hl⟩
      unfold rkS
      rw [if_pos ⟨hb, a1⟩, if_pos hl, ← h2, List.take_append_drop, ← hk]
      exact ho
    · simp at h
  · simp at h
theorem rkO_no {B : List UInt8} (h : (rkO B).2 ≠ 0) : (rkO B).1 = ⟨0, []⟩ := by
  unfold rkO at h ⊢
  split
  · split
    · rename_i h1 h2
      rw [if_pos h1, if_pos h2] at h
      exact absurd rfl h
    · rfl
  · rfl
end Go.Proofs.Ytobcfocbglkicaa
