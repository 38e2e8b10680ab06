/- Plain: the sum of bytes parts bytes that differ in one place. -/
import Derived.Test.YthoeklcgdbbbgaaBlkI
set_option linter.unusedVariables false
namespace Go.Proofs.Ythoeklcgdbbbgaa
open Go.RowKit

/-- One byte more, in 64 bits. -/
def fB (x : BitVec 64) (b : UInt8) : BitVec 64 := (x ^^^ BitVec.ofNat 64 b.toNat) * 1099511628211#64
theorem fB_times (x : BitVec 64) (b : UInt8) : fB x b * 14886173955864302971#64 = x ^^^ BitVec.ofNat 64 b.toNat := by
  unfold fB
  rw [BitVec.mul_assoc, show 1099511628211#64 * 14886173955864302971#64 = 1#64 from by decide, BitVec.mul_one]
theorem xor_cancel_left (x a b : BitVec 64) (h : x ^^^ a = x ^^^ b) : a = b := by
  have := congrArg (fun y => x ^^^ y) h
  simpa only [← BitVec.xor_assoc, BitVec.xor_self, BitVec.zero_xor] using this
theorem fB_inj {x y : BitVec 64} {b : UInt8} (h : fB x b = fB y b) : x = y := by
  have h1 := congrArg (· * 14886173955864302971#64) h
  simp only [fB_times] at h1
  rw [BitVec.xor_comm x, BitVec.xor_comm y] at h1
  exact xor_cancel_left _ _ _ h1
theorem fB_byte {x : BitVec 64} {b c : UInt8} (h : fB x b = fB x c) : b = c := by
  have h1 := congrArg (· * 14886173955864302971#64) h
  simp only [fB_times] at h1
  have h2 := congrArg BitVec.toNat (xor_cancel_left _ _ _ h1)
  have hb := b.toNat_lt
  have hc := c.toNat_lt
  rw [BitVec.toNat_ofNat, BitVec.toNat_ofNat, Nat.mod_eq_of_lt (by omega), Nat.mod_eq_of_lt (by omega)] at h2
  exact UInt8.toNat_inj.1 h2
theorem fold_inj : ∀ (l : List UInt8) (x y : BitVec 64), l.foldl fB x = l.foldl fB y → x = y
  | [], _, _, h => h
  | b :: l, x, y, h => fB_inj (fold_inj l _ _ h)
theorem step_fB (x : BitVec 64) (b : UInt8) : fnvStep (x.toNat : Int) b = ((fB x b).toNat : Int) := by
  have hb := b.toNat_lt
  have e1 : BitVec.ofInt 64 (x.toNat : Int) = x := by rw [BitVec.ofInt_natCast, BitVec.ofNat_toNat, BitVec.setWidth_eq]
  have e2 : BitVec.ofInt 64 (b.toNat : Int) = BitVec.ofNat 64 b.toNat := BitVec.ofInt_natCast _ _
  have e3 : bits .xor .u64 (x.toNat : Int) (b.toNat : Int) = ((x ^^^ BitVec.ofNat 64 b.toNat).toNat : Int) := by
    show IntKind.u64.wrap ((BitVec.ofInt 64 (x.toNat : Int) ^^^ BitVec.ofInt 64 (b.toNat : Int)).toNat : Int) = _
    rw [e1, e2]
    generalize x ^^^ BitVec.ofNat 64 b.toNat = y
    have := y.isLt
    simp only [IntKind.wrap, IntKind.bits, IntKind.signed]
    simp
    omega
  unfold fnvStep fB
  rw [e3, BitVec.toNat_mul]
  simp only [IntKind.wrap, IntKind.bits, IntKind.signed]
  simp
theorem fold_fB (x : BitVec 64) : ∀ (l : List UInt8), fnvFrom (x.toNat : Int) l = ((l.foldl fB x).toNat : Int) := by
  intro l
  induction l generalizing x with
  | nil => rfl
  | cons b l ih =>
    show fnvFrom (fnvStep (x.toNat : Int) b) l = _
    rw [step_fB, ih]
    rfl
theorem fnv_set {l : List UInt8} {i : Nat} {c : UInt8} (h : i < l.length) (hc : l[i] ≠ c) : fnv (l.set i c) ≠ fnv l := by
  intro he
  have hx : (14695981039346656037 : Int) = ((14695981039346656037#64 : BitVec 64).toNat : Int) := by decide
  unfold fnv at he
  rw [hx, fold_fB, fold_fB] at he
  have h1 : (l.set i c).foldl fB 14695981039346656037#64 = l.foldl fB 14695981039346656037#64 := BitVec.eq_of_toNat_eq (by omega)
  have e1 : l.set i c = l.take i ++ c :: l.drop (i + 1) := by rw [List.set_eq_take_append_cons_drop, if_pos h]
  have e2 : l = l.take i ++ l[i] :: l.drop (i + 1) := by rw [← List.drop_eq_getElem_cons h, List.take_append_drop]
  rw [e1] at h1
  conv at h1 => rhs; rw [e2]
  rw [List.foldl_append, List.foldl_append, List.foldl_cons, List.foldl_cons] at h1
  exact hc (fB_byte (fold_inj _ _ _ h1)).symm
end Go.Proofs.Ythoeklcgdbbbgaa
