/- Walks of readers: Long, Int, Flag, Count of package xdr. -/
import Derived.Test.YteahlnoonmfjhaaRdF
set_option linter.unusedVariables false
set_option maxRecDepth 100000
namespace Go.Proofs.Yteahlnoonmfjhaa
open Go.RowKit

theorem or_u64 (x b : Int) (hx : 0 ≤ x) (hx1 : x ≤ 4294967295) (hb : 0 ≤ b) (hb1 : b ≤ 4294967295) : bits .or .u64 (x * 4294967296) b = x * 4294967296 + b := by
  obtain ⟨m, rfl⟩ := Int.eq_ofNat_of_zero_le hx
  obtain ⟨k, rfl⟩ := Int.eq_ofNat_of_zero_le hb
  have e1 : ((m : Int) * 4294967296) = ((m * 4294967296 : Nat) : Int) := by omega
  rw [e1]
  have h1 : (BitVec.ofInt 64 ((m * 4294967296 : Nat) : Int)).toNat = m * 4294967296 := by rw [BitVec.ofInt_natCast, BitVec.toNat_ofNat]; exact Nat.mod_eq_of_lt (by omega)
  have h2 : (BitVec.ofInt 64 ((k : Nat) : Int)).toNat = k := by rw [BitVec.ofInt_natCast, BitVec.toNat_ofNat]; exact Nat.mod_eq_of_lt (by omega)
  have e2 : m * 4294967296 ||| k = m * 4294967296 + k := by
    have := Nat.two_pow_add_eq_or_of_lt (i := 32) (b := k) (by omega) m
    rw [show m * 4294967296 = 2 ^ 32 * m by omega]; omega
  show IntKind.u64.wrap ((BitVec.ofInt 64 ((m * 4294967296 : Nat) : Int) ||| BitVec.ofInt 64 ((k : Nat) : Int)).toNat : Int) = _
  rw [BitVec.toNat_or, h1, h2, e2]
  simp [IntKind.wrap, IntKind.bits, IntKind.signed]
  omega

def rdL (s : St) : Int × St := if (rdW (rdW s).2).2 = none then (0, none) else ((rdW s).1 * 4294967296 + (rdW (rdW s).2).1, (rdW (rdW s).2).2)
theorem rdL_bd (s : St) : 0 ≤ (rdL s).1 ∧ (rdL s).1 ≤ 18446744073709551615 := by
  have h1 := rdW_bd s
  have h2 := rdW_bd (rdW s).2
  unfold rdL
  split
  · simp
  · simp only; omega

theorem long_any (g : Nat) (s : St) (w : World) (h : Rd 192 w g s) :
    Calls Try.prog 127 #[.pointer (some ⟨g, 0, none⟩)] w fun e w' => e = .returned (.int .u64 (rdL s).1) ∧ Rd 192 w' g (rdL s).2 ∧ But g w w' := by
  have b1 := rdW_bd s
  have b2 := rdW_bd (rdW s).2
  have ho := or_u64 _ _ b1.1 b1.2 b2.1 b2.2
  cases hq : (rdW (rdW s).2).2 with
  | none =>
    have hr : rdL s = (0, none) := by simp [rdL, hq]
    rw [hr]
    go_enter Try.func127, Try.ntmps127
    go_wp2_with fail
    refine (word_any g s _ h).mono ?_
    rintro e w1 ⟨rfl, r1, k1⟩
    go_wp2_with fail
    refine (word_any g _ _ r1).mono ?_
    rintro e w2 ⟨rfl, r2, k2⟩
    rw [hq] at r2
    go_wp2_with (go_at_call 128; refine (ok_any _ _ _ r2).mono ?_; rintro e w' ⟨rfl, rfl⟩)
    go_ret
    exact ⟨rfl, r2, k1.trans k2⟩
  | some l =>
    have hr : rdL s = ((rdW s).1 * 4294967296 + (rdW (rdW s).2).1, some l) := by simp [rdL, hq]
    rw [hr]
    go_enter Try.func127, Try.ntmps127
    go_wp2_with fail
    refine (word_any g s _ h).mono ?_
    rintro e w1 ⟨rfl, r1, k1⟩
    go_wp2_with fail
    refine (word_any g _ _ r1).mono ?_
    rintro e w2 ⟨rfl, r2, k2⟩
    rw [hq] at r2
    go_wp2_with (go_at_call 128; refine (ok_any _ _ _ r2).mono ?_; rintro e w' ⟨rfl, rfl⟩)
    go_ret
    exact ⟨rfl, r2, k1.trans k2⟩

theorem int_any (g : Nat) (s : St) (w : World) (h : Rd 192 w g s) :
    Calls Try.prog 126 #[.pointer (some ⟨g, 0, none⟩)] w fun e w' => e = .returned (.int .i64 (wrap64 (rdL s).1)) ∧ Rd 192 w' g (rdL s).2 ∧ But g w w' := by
  have b1 := rdL_bd s
  go_enter Try.func126, Try.ntmps126
  go_wp2_with fail
  refine (long_any g s _ h).mono ?_
  rintro e w1 ⟨rfl, r1, k1⟩
  go_wp2_with fail
  go_ret
  exact ⟨rfl, r1, k1⟩
end Go.Proofs.Yteahlnoonmfjhaa
