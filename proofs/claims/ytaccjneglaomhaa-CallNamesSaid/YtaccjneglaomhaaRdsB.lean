/- What is written is read: plain laws of bytes. -/
import Derived.Test.YtaccjneglaomhaaXdrW
set_option linter.unusedVariables false
namespace Go.Proofs.Ytaccjneglaomhaa
open Go.RowKit

theorem beV_beN4 (m : Int) (h0 : 0 ≤ m) (h1 : m ≤ 4294967295) : beV (beN m 4) = m := by
  simp only [beV, beN, List.foldl_cons, List.foldl_nil, byteOf_toNat]
  omega
theorem rdW_be (m : Int) (r : List UInt8) (h0 : 0 ≤ m) (h1 : m ≤ 4294967295) : rdW (some (beN m 4 ++ r)) = (m, some r) := by
  have hl : (beN m 4).length = 4 := beN_length m 4
  simp only [rdW, List.length_append, hl, show 4 ≤ 4 + r.length by omega, if_true]
  rw [List.take_left' hl, List.drop_left' hl, beV_beN4 m h0 h1]
theorem rdL_be (n : Int) (r : List UInt8) (h0 : 0 ≤ n) (h1 : n ≤ 18446744073709551615) : rdL (some (beL n ++ r)) = (n, some r) := by
  have e1 := rdW_be (n / 4294967296) (beN (n % 4294967296) 4 ++ r) (by omega) (by omega)
  have e2 := rdW_be (n % 4294967296) r (by omega) (by omega)
  simp only [rdL, beL, List.append_assoc, e1, e2, reduceCtorEq, if_false, Prod.mk.injEq, and_true]
  omega
theorem rdF_be (b : Bool) (r : List UInt8) : rdF (some (beN (b2i b) 4 ++ r)) = (b, some r) := by
  cases b
  · have e := rdW_be 0 r (by omega) (by omega)
    simp only [rdF, b2i, Bool.false_eq_true, if_false, e]; rfl
  · have e := rdW_be 1 r (by omega) (by omega)
    simp only [rdF, b2i, if_true, e]; rfl
theorem fixL_eq (s : List UInt8) : fixL s = s ++ List.replicate (padN s.length) 0 := rfl
theorem rdX_be (s r : List UInt8) : rdX (some (fixL s ++ r)) s.length = (s, some r) := by
  have hl : (fixL s).length = s.length + padN s.length := by simp [fixL_eq]
  have hd : (fixL s ++ r).drop s.length = List.replicate (padN s.length) 0 ++ r := by
    rw [fixL_eq, List.append_assoc, List.drop_left' rfl]
  have hf : fixB (fixL s ++ r) s.length = true := by
    simp only [fixB, Int.toNat_natCast, hd, List.length_append, hl, Bool.and_eq_true, decide_eq_true_eq, List.all_eq_true]
    refine ⟨⟨by omega, by omega⟩, fun x hx => ?_⟩
    rw [List.take_left' (by simp)] at hx
    simp [List.eq_of_mem_replicate hx]
  simp only [rdX, hf, if_true, Int.toNat_natCast]
  rw [List.drop_left' hl, fixL_eq, List.append_assoc, List.take_left' rfl]
theorem rdT_be (s r : List UInt8) (h : s.length ≤ 4294967295) : rdT (some (beN s.length 4 ++ (fixL s ++ r))) s.length = (s, some r) := by
  have e := rdW_be s.length (fixL s ++ r) (by omega) (by omega)
  have hc : rdC (some (beN s.length 4 ++ (fixL s ++ r))) (max (s.length : Int) 0) = ((s.length : Int), some (fixL s ++ r)) := by
    unfold rdC
    rw [e]
    simp only
    rw [if_neg (by omega)]
  unfold rdT
  rw [hc]
  exact rdX_be s r
theorem fixL_mod (s : List UInt8) : (fixL s).length % 4 = 0 := by
  have : (fixL s).length = s.length + padN s.length := by simp [fixL_eq]
  rw [this]; unfold padN; omega
end Go.Proofs.Ytaccjneglaomhaa
