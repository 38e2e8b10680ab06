/- Plain: a handle's bytes read back. Walk: the first example. -/
import Derived.Test.YteahlnoonmfjhaaHandleF
set_option linter.unusedVariables false
set_option maxRecDepth 100000
namespace Go.Proofs.Yteahlnoonmfjhaa
open Go.RowKit

theorem hbytes_nums (s i g : Int) (hs : 0 ≤ s ∧ s ≤ 2147483647) (hi : 0 ≤ i ∧ i ≤ 2147483647) (hg : 0 ≤ g ∧ g ≤ 2147483647) :
    n4 (hbytes s i g) 4 = s ∧ n4 (hbytes s i g) 8 = i ∧ n4 (hbytes s i g) 12 = g := by
  refine ⟨?_, ?_, ?_⟩ <;> (simp [hbytes, head16, beN, n4, pre, byteOf_toNat]; omega)

theorem dec_hbytes (s i g : Int) (h : hmayB s i g = true) : dec (hbytes s i g) = some (s, i, g) := by
  have hm := hmayB_spec h
  obtain ⟨h1, h2, h3⟩ := hbytes_nums s i g ⟨hm.1, hm.2.1⟩ ⟨by omega, by omega⟩ ⟨by omega, by omega⟩
  unfold dec
  rw [h1, h2, h3, if_pos ⟨hbytes_length _ _ _, h, rfl⟩]

theorem decode_any (l : List UInt8) (h63 : l.length ≤ 9223372036854775807) (w : World) : Calls Try.prog 149 #[.string (str l)] w fun e w' => e = .returned (decV l) ∧ Below w.heap.size w w' := by
  by_cases hl : l.length = 24
  · exact decode_long l hl w
  · exact decode_short l hl h63 w
theorem rdecode_any (l : List UInt8) (h63 : l.length ≤ 9223372036854775807) (w : World) : Calls Try.prog 129 #[.string (str l)] w fun e w' => e = .returned (decV l) ∧ Below w.heap.size w w' := by
  by_cases hl : l.length = 24
  · exact rdecode_long l hl w
  · exact rdecode_short l hl h63 w

def encV (s i g : Int) : Value := if hmayB s i g = true then .tuple #[.string (str (hbytes s i g)), .int .i64 0] else .tuple #[.string ⟨#[]⟩, .int .i64 4]
theorem encode_any (s i g : Int) (w : World) : Calls Try.prog 96 #[hv s i g] w fun e w' => e = .returned (encV s i g) ∧ Below w.heap.size w w' := by
  unfold encV
  cases h : hmayB s i g with
  | true => exact encode_yes s i g h w
  | false => exact encode_no s i g h w
theorem rencode_any (s i g : Int) (w : World) : Calls Try.prog 67 #[hv s i g] w fun e w' => e = .returned (encV s i g) ∧ Below w.heap.size w w' := by
  unfold encV
  cases h : hmayB s i g with
  | true => exact rencode_yes s i g h w
  | false => exact rencode_no s i g h w

/-- Are two handles the same? -/
def eqH (a b c x y z : Int) : Bool := decide (a = x ∧ b = y ∧ c = z)
theorem neq_handle (a b c x y z : Int) (w : World) : (binOp .neq 32 (.agg #[.int .i64 a, .int .i64 b, .int .i64 c]) (.agg #[.int .i64 x, .int .i64 y, .int .i64 z])).run Try.prog w = .ok (.bool (!eqH a b c x y z)) w := by
  go_simp
  by_cases h1 : a = x <;> by_cases h2 : b = y <;> by_cases h3 : c = z <;> simp [eqH, h1, h2, h3]
theorem eql_handle (a b c x y z : Int) (w : World) : (binOp .eql 32 (.agg #[.int .i64 a, .int .i64 b, .int .i64 c]) (.agg #[.int .i64 x, .int .i64 y, .int .i64 z])).run Try.prog w = .ok (.bool (eqH a b c x y z)) w := by
  go_simp
  by_cases h1 : a = x <;> by_cases h2 : b = y <;> by_cases h3 : c = z <;> simp [eqH, h1, h2, h3]
theorem eqH_false {a b c x y z : Int} (h : ¬ (a = x ∧ b = y ∧ c = z)) : eqH a b c x y z = false := by simp only [eqH, h, decide_false]
theorem eqH_same (a b c : Int) : eqH a b c a b c = true := by simp [eqH]

end Go.Proofs.Yteahlnoonmfjhaa
