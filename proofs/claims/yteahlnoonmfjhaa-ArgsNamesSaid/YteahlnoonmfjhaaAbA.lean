/- Plain laws of bytes: what is written is read, and back. No statement of its own. -/
import Derived.Test.YteahlnoonmfjhaaAgA
set_option linter.unusedVariables false
set_option maxRecDepth 100000
namespace Go.Proofs.Yteahlnoonmfjhaa
open Go.RowKit

theorem beV_beN4 (m : Int) (h0 : 0 ≤ m) (h1 : m ≤ 4294967295) : beV (beN m 4) = m := by
  simp only [beV, beN, List.foldl_cons, List.foldl_nil, byteOf_toNat]
  omega
theorem rdW_be (m : Int) (r : List UInt8) (h0 : 0 ≤ m) (h1 : m ≤ 4294967295) : rdW (some (beN m 4 ++ r)) = (m, some r) := by
  have hl : (beN m 4).length = 4 := beN_length m 4
  simp only [rdW, List.length_append, hl, show 4 ≤ 4 + r.length by omega, if_true]
  rw [List.take_left' hl, List.drop_left' hl, beV_beN4 m h0 h1]
theorem rdL_be (n : Int) (r : List UInt8) (h0 : 0 ≤ n) (h1 : n ≤ 18446744073709551615) : rdL (some (beL n ++ r)) = (n, some r) := by
  have e1 := rdW_be (n / 4294967296) (beN (n % 4294967296) 4 ++ r) (by omega) (by omega)
  have e2 := rdW_be (n % 4294967296) r (by omega) (by omega)
  simp only [rdL, beL, List.append_assoc, e1, e2, reduceCtorEq, if_false, Prod.mk.injEq, and_true]
  omega
theorem rdF_be (b : Bool) (r : List UInt8) : rdF (some (beN (b2i b) 4 ++ r)) = (b, some r) := by
  cases b
  · have e := rdW_be 0 r (by omega) (by omega)
    simp only [rdF, b2i, Bool.false_eq_true, if_false, e]; rfl
  · have e := rdW_be 1 r (by omega) (by omega)
    simp only [rdF, b2i, if_true, e]; rfl
theorem fixL_eq (s : List UInt8) : fixL s = s ++ List.replicate (padN s.length) 0 := rfl
theorem rdX_be (s r : List UInt8) : rdX (some (fixL s ++ r)) s.length = (s, some r) := by
  have hl : (fixL s).length = s.length + padN s.length := by simp [fixL_eq]
  have hd : (fixL s ++ r).drop s.length = List.replicate (padN s.length) 0 ++ r := by
    rw [fixL_eq, List.append_assoc, List.drop_left' rfl]
  have hf : fixB (fixL s ++ r) s.length = true := by
    simp only [fixB, Int.toNat_natCast, hd, List.length_append, hl, Bool.and_eq_true, decide_eq_true_eq, List.all_eq_true]
    refine ⟨⟨by omega, by omega⟩, fun x hx => ?_⟩
    rw [List.take_left' (by simp)] at hx
    simp [List.eq_of_mem_replicate hx]
  simp only [rdX, hf, if_true, Int.toNat_natCast]
  rw [List.drop_left' hl, fixL_eq, List.append_assoc, List.take_left' rfl]
theorem fixL_mod (s : List UInt8) : (fixL s).length % 4 = 0 := by
  have : (fixL s).length = s.length + padN s.length := by simp [fixL_eq]
  rw [this]; unfold padN; omega
theorem beN_beV4 {l : List UInt8} (h : l.length = 4) : beN (beV l) 4 = l := by
  obtain ⟨p, q, r, t, rfl⟩ := four h
  have e : ∀ (x : Int) (b : UInt8), x % 256 = b.toNat → byteOf x = b := fun x b h => by
    apply UInt8.toNat_inj.1
    have := byteOf_toNat x
    omega
  have pb := p.toNat_lt
  have qb := q.toNat_lt
  have rb := r.toNat_lt
  have tb := t.toNat_lt
  simp only [beV, List.foldl_cons, List.foldl_nil, beN, List.cons.injEq, and_true]
  refine ⟨e _ _ ?_, e _ _ ?_, e _ _ ?_, e _ _ ?_⟩ <;> omega
theorem rdW_back {l r : List UInt8} (h : (rdW (some l)).2 = some r) : l = beN (rdW (some l)).1 4 ++ r := by
  simp only [rdW] at h ⊢
  split at h
  · rename_i h4
    simp only [Option.some.injEq] at h
    subst h
    rw [if_pos h4]
    simp only
    rw [beN_beV4 (by simp; omega), List.take_append_drop]
  · simp at h
theorem rdW_none : rdW none = (0, none) := rfl
theorem rdL_back {l r : List UInt8} (h : (rdL (some l)).2 = some r) : l = beL (rdL (some l)).1 ++ r := by
  have h0 := h
  unfold rdL at h
  split at h
  · simp at h
  · rename_i h1
    simp only at h
    cases h2 : (rdW (some l)).2 with
    | none => rw [h2] at h; simp [rdW] at h
    | some m =>
      have e1 := rdW_back h2
      rw [h2] at h h1
      have e2 := rdW_back h
      have b1 := rdW_bd (some l)
      have b2 := rdW_bd (some m)
      have e3 : (rdL (some l)).1 = (rdW (some l)).1 * 4294967296 + (rdW (some m)).1 := by
        unfold rdL; rw [h2, if_neg h1]
      rw [e3, beL, show ((rdW (some l)).1 * 4294967296 + (rdW (some m)).1) / 4294967296 = (rdW (some l)).1 by omega, show ((rdW (some l)).1 * 4294967296 + (rdW (some m)).1) % 4294967296 = (rdW (some m)).1 by omega, List.append_assoc, ← e2]
      exact e1
theorem rdF_back {l r : List UInt8} (h : (rdF (some l)).2 = some r) : l = beN (b2i (rdF (some l)).1) 4 ++ r := by
  have b := rdW_bd (some l)
  unfold rdF at h ⊢
  split at h
  · simp at h
  · rename_i h1
    rw [if_neg h1]
    simp only at h ⊢
    have e := rdW_back h
    have : b2i ((rdW (some l)).1 == 1) = (rdW (some l)).1 := by
      by_cases h2 : (rdW (some l)).1 = 1
      · rw [h2]; rfl
      · have h3 : (rdW (some l)).1 = 0 := by omega
        rw [h3]; rfl
    rw [this]
    exact e
theorem rdC_back {l r : List UInt8} {m : Int} (h : (rdC (some l) m).2 = some r) : l = beN (rdC (some l) m).1 4 ++ r := by
  unfold rdC at h ⊢
  split at h
  · simp at h
  · rename_i h1
    rw [if_neg h1]
    exact rdW_back h
theorem rdX_back {l r : List UInt8} {n : Int} (h : (rdX (some l) n).2 = some r) : l = fixL (rdX (some l) n).1 ++ r ∧ (0 ≤ n ∧ ((rdX (some l) n).1.length : Int) = n) := by
  simp only [rdX] at h ⊢
  split at h
  · rename_i h1
    rw [if_pos h1]
    simp only [Option.some.injEq] at h
    subst h
    simp only [fixB, Bool.and_eq_true, decide_eq_true_eq, List.all_eq_true] at h1
    obtain ⟨⟨h2, h3⟩, h4⟩ := h1
    have hl : (l.take n.toNat).length = n.toNat := by simp; omega
    have hz : (l.drop n.toNat).take (padN n.toNat) = List.replicate (padN n.toNat) 0 := by
      apply List.eq_replicate_iff.2
      refine ⟨by simp; omega, fun x hx => by simpa using h4 x hx⟩
    refine ⟨?_, h2, by simp only; omega⟩
    simp only
    rw [fixL_eq, hl, ← hz, ← List.drop_drop, List.append_assoc, List.take_append_drop, List.take_append_drop]
  · simp at h
theorem rdT_back {l r : List UInt8} {m : Int} (h : (rdT (some l) m).2 = some r) : l = (beN (rdT (some l) m).1.length 4 ++ fixL (rdT (some l) m).1) ++ r := by
  unfold rdT at h ⊢
  cases h2 : (rdC (some l) (max m 0)).2 with
  | none => rw [h2] at h; simp [rdX] at h
  | some k =>
    rw [h2] at h
    obtain ⟨e1, e2, e3⟩ := rdX_back h
    have e4 := rdC_back h2
    rw [e3, List.append_assoc, ← e1]
    exact e4
theorem rdT_be {s r : List UInt8} {m : Int} (h : (s.length : Int) ≤ m) (hm : m ≤ 4294967295) : rdT (some (textL s ++ r)) m = (s, some r) := by
  have e := rdW_be s.length (fixL s ++ r) (by omega) (by omega)
  have hc : rdC (some (textL s ++ r)) (max m 0) = ((s.length : Int), some (fixL s ++ r)) := by
    unfold rdC textL
    rw [List.append_assoc, e]
    simp only
    rw [if_neg (by omega)]
  unfold rdT
  rw [hc]
  exact rdX_be s r
theorem textL_mod (s : List UInt8) : (textL s).length % 4 = 0 := by
  have := fixL_mod s
  simp only [textL, List.length_append, beN_length]
  omega
theorem textL_max (s : List UInt8) (m : Nat) (h : s.length ≤ m) (hm : m % 4 = 0) : (textL s).length ≤ m + 4 := by
  have h1 : (fixL s).length = s.length + padN s.length := by simp [fixL_eq]
  simp only [textL, List.length_append, beN_length, h1]
  unfold padN
  omega
theorem rdI_be (n : Int) (r : List UInt8) (h : I64 n) : wrap64 (rdL (some (intL n ++ r))).1 = n ∧ (rdL (some (intL n ++ r))).2 = some r := by
  have := rdL_be (n % 18446744073709551616) r (by omega) (by omega)
  unfold intL
  rw [this]
  refine ⟨?_, rfl⟩
  unfold I64 at h
  unfold wrap64
  simp only
  omega
theorem intL_wrap (n : Int) (h0 : 0 ≤ n) (h1 : n ≤ 18446744073709551615) : intL (wrap64 n) = beL n := by
  unfold intL
  congr 1
  unfold wrap64
  omega
theorem rdI_back {l r : List UInt8} (h : (rdL (some l)).2 = some r) : l = intL (wrap64 (rdL (some l)).1) ++ r := by
  have hb := rdL_bd (some l)
  rw [intL_wrap _ hb.1 hb.2]
  exact rdL_back h
theorem rdX_n' (s : St) (n : Int) : (rdX s n).1.length ≤ n.toNat := by
  cases s with
  | none => exact Nat.zero_le _
  | some l =>
    unfold rdX
    simp only
    split
    · simp only [List.length_take]; omega
    · simp
theorem rdT_max' (s : St) (m : Int) (hm : 0 ≤ m) : ((rdT s m).1.length : Int) ≤ m := by
  have h1 := rdX_n' (rdC s (max m 0)).2 (rdC s (max m 0)).1
  have h2 := rdC_bd s (max m 0)
  have h3 : (rdC s (max m 0)).1 ≤ max m 0 := by
    unfold rdC
    split
    · show (0 : Int) ≤ max m 0; omega
    · omega
  unfold rdT
  omega
theorem fix24 {x : List UInt8} (h : x.length = 24) : fixL x = x := by
  rw [fixL_eq, h]
  exact List.append_nil x
theorem hB_fwd {y : Int × Int × Int} {x : List UInt8} (h : hB y = some x) (r : List UInt8) : rdX (some (x ++ r)) 24 = (x, some r) ∧ dec x = some y := by
  unfold hB at h
  split at h
  · rename_i hm
    simp only [Option.some.injEq] at h
    have hl : x.length = 24 := by rw [← h]; exact hbytes_length _ _ _
    have e := rdX_be x r
    rw [fix24 hl, hl] at e
    refine ⟨e, ?_⟩
    rw [← h]
    exact dec_hbytes _ _ _ hm
  · cases h
theorem dec_some {l : List UInt8} {y : Int × Int × Int} (h : dec l = some y) : hB y = some l := by
  unfold dec at h
  split at h
  · rename_i hc
    simp only [Option.some.injEq] at h
    subst h
    unfold hB
    rw [if_pos hc.2.1, hc.2.2]
  · cases h
theorem hB_back {l r : List UInt8} (h : (rdX (some l) 24).2 = some r) (hd : (dec (rdX (some l) 24).1).isNone = false) : hB ((dec (rdX (some l) 24).1).getD (0, 0, 0)) = some (rdX (some l) 24).1 ∧ l = (rdX (some l) 24).1 ++ r := by
  obtain ⟨e1, -, e2⟩ := rdX_back h
  generalize (rdX (some l) 24).1 = X at *
  rw [fix24 (by omega)] at e1
  refine ⟨?_, e1⟩
  cases h2 : dec X with
  | none => rw [h2] at hd; cases hd
  | some y => exact dec_some h2
theorem tB_fwd {s x : List UInt8} {m : Nat} {M : Int} (h : tB s m = some x) (hM : M = m) (hm : m ≤ 4000000) (r : List UInt8) : rdT (some (x ++ r)) M = (s, some r) := by
  unfold tB at h
  split at h
  · cases h
  · simp only [Option.some.injEq] at h
    rw [← h]
    exact rdT_be (by omega) (by omega)
theorem tB_back {l r : List UInt8} {m : Nat} {M : Int} (h : (rdT (some l) M).2 = some r) (hM : M = m) : tB (rdT (some l) M).1 m = some (textL (rdT (some l) M).1) ∧ l = textL (rdT (some l) M).1 ++ r := by
  have h1 := rdT_back h
  have h2 := rdT_max' (some l) M (by omega)
  refine ⟨?_, h1⟩
  unfold tB
  rw [if_neg (by omega)]
end Go.Proofs.Yteahlnoonmfjhaa
