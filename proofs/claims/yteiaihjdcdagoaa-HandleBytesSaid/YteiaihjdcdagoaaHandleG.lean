/- Plain: a handle's bytes read back. Walk: the first example. -/
import Derived.Test.YteiaihjdcdagoaaHandleF
set_option linter.unusedVariables false
namespace Go.Proofs.Yteiaihjdcdagoaa
open Go.RowKit

theorem hbytes_nums (s i g : Int) (hs : 0 ≤ s ∧ s ≤ 2147483647) (hi : 0 ≤ i ∧ i ≤ 2147483647) (hg : 0 ≤ g ∧ g ≤ 2147483647) :
    n4 (hbytes s i g) 4 = s ∧ n4 (hbytes s i g) 8 = i ∧ n4 (hbytes s i g) 12 = g := by
  refine ⟨?_, ?_, ?_⟩ <;> (simp [hbytes, head16, beN, n4, pre, byteOf_toNat]; omega)

theorem dec_hbytes (s i g : Int) (h : mayB s i g = true) : dec (hbytes s i g) = some (s, i, g) := by
  have hm := mayB_spec h
  obtain ⟨h1, h2, h3⟩ := hbytes_nums s i g ⟨hm.1, hm.2.1⟩ ⟨by omega, by omega⟩ ⟨by omega, by omega⟩
  unfold dec
  rw [h1, h2, h3, if_pos ⟨hbytes_length _ _ _, h, rfl⟩]

theorem decode_any (l : List UInt8) (h63 : l.length ≤ 9223372036854775807) (w : World) : Calls Try.prog 12 #[.string (str l)] w fun e w' => e = .returned (decV l) ∧ Below w.heap.size w w' := by
  by_cases hl : l.length = 24
  · exact decode_long l hl w
  · exact decode_short l hl h63 w
theorem rdecode_any (l : List UInt8) (h63 : l.length ≤ 9223372036854775807) (w : World) : Calls Try.prog 13 #[.string (str l)] w fun e w' => e = .returned (decV l) ∧ Below w.heap.size w w' := by
  by_cases hl : l.length = 24
  · exact rdecode_long l hl w
  · exact rdecode_short l hl h63 w

def encV (s i g : Int) : Value := if mayB s i g = true then .tuple #[.string (str (hbytes s i g)), .int .i64 0] else .tuple #[.string ⟨#[]⟩, .int .i64 4]
theorem encode_any (s i g : Int) (w : World) : Calls Try.prog 10 #[hv s i g] w fun e w' => e = .returned (encV s i g) ∧ Below w.heap.size w w' := by
  unfold encV
  cases h : mayB s i g with
  | true => exact encode_yes s i g h w
  | false => exact encode_no s i g h w
theorem rencode_any (s i g : Int) (w : World) : Calls Try.prog 11 #[hv s i g] w fun e w' => e = .returned (encV s i g) ∧ Below w.heap.size w w' := by
  unfold encV
  cases h : mayB s i g with
  | true => exact rencode_yes s i g h w
  | false => exact rencode_no s i g h w

/-- Are two handles the same? -/
def eqH (a b c x y z : Int) : Bool := decide (a = x ∧ b = y ∧ c = z)
theorem neq_handle (a b c x y z : Int) (w : World) : (binOp .neq 23 (.agg #[.int .i64 a, .int .i64 b, .int .i64 c]) (.agg #[.int .i64 x, .int .i64 y, .int .i64 z])).run Try.prog w = .ok (.bool (!eqH a b c x y z)) w := by
  go_simp
  by_cases h1 : a = x <;> by_cases h2 : b = y <;> by_cases h3 : c = z <;> simp [eqH, h1, h2, h3]
theorem eql_handle (a b c x y z : Int) (w : World) : (binOp .eql 23 (.agg #[.int .i64 a, .int .i64 b, .int .i64 c]) (.agg #[.int .i64 x, .int .i64 y, .int .i64 z])).run Try.prog w = .ok (.bool (eqH a b c x y z)) w := by
  go_simp
  by_cases h1 : a = x <;> by_cases h2 : b = y <;> by_cases h3 : c = z <;> simp [eqH, h1, h2, h3]
theorem eqH_false {a b c x y z : Int} (h : ¬ (a = x ∧ b = y ∧ c = z)) : eqH a b c x y z = false := by simp only [eqH, h, decide_false]
theorem eqH_same (a b c : Int) : eqH a b c a b c = true := by simp [eqH]

theorem awake_any (w : World) : Calls Try.prog 9 #[] w fun e w' => e = .returned (.bool true) ∧ Below w.heap.size w w' := by
  have hd : decV (hbytes 0 1 0) = .tuple #[.agg #[.int .i64 0, .int .i64 1, .int .i64 0], .int .i64 0] := by unfold decV; rw [dec_hbytes 0 1 0 (by decide)]; rfl
  have hl := hbytes_length 0 1 0
  have h24 : (str (hbytes 0 1 0)).size = 24 := by rw [str_size, hl]
  have e16 : (str (hbytes 0 1 0)).extract 0 16 = str [0, 0, 0, 1, 0, 0, 0, 0, 0, 0, 0, 1, 0, 0, 0, 0] := by rw [str_extract]; rfl
  have sl := strL
  have m1 : mayB 0 1 0 = true := by decide
  have m2 : lessB 0 1 0 0 2147483647 0 = true := by decide
  have m3 : lessB 0 1 0 0 1 0 = false := by decide
  have hu : ∀ s i g, hv s i g = .agg #[.int .i64 s, .int .i64 i, .int .i64 g] := fun _ _ _ => rfl
  obtain ⟨S, hS⟩ : ∃ S, S = hbytes 0 1 0 := ⟨_, rfl⟩
  rw [← hS] at hd hl h24 e16
  have HS := Lib.hid hS
  have HD := Lib.hid hd
  clear hS hd
  go_enter Try.func9, Try.ntmps9
  go_wp2_with fail
  refine (encode_yes 0 1 0 (by decide) _).mono ?_
  rintro e w1 ⟨rfl, hb⟩
  rw [← HS.out]
  go_wp2_with fail
  refine (decode_any S (by omega) _).mono ?_
  rintro e w2 ⟨rfl, hb2⟩
  rw [HD.out]
  have hB : Below w.heap.size w w2 := hb.trans (hb2.mono hb.size)
  have hz2 := hB.size
  clear hb hb2 w1 HD
  go_wp2_with fail
  have c0 : ∀ e : ExtOf (w2.heap.size + 1) (w2.alloc (.cells #[.int .i64 0, .int .i64 1, .int .i64 0] 23)), e.val.cell? ⟨w2.heap.size, 0, none⟩ = some (.int .i64 0) := fun e => e.cell (by go_simp) (by simp)
  have c1 : ∀ e : ExtOf (w2.heap.size + 1) (w2.alloc (.cells #[.int .i64 0, .int .i64 1, .int .i64 0] 23)), e.val.cell? ⟨w2.heap.size, 1, none⟩ = some (.int .i64 1) := fun e => e.cell (by go_simp) (by simp)
  have c2 : ∀ e : ExtOf (w2.heap.size + 1) (w2.alloc (.cells #[.int .i64 0, .int .i64 1, .int .i64 0] 23)), e.val.cell? ⟨w2.heap.size, 2, none⟩ = some (.int .i64 0) := fun e => e.cell (by go_simp) (by simp)
  refine wp_region_ext (w2.heap.size + 1) (by kernel_rfl) (by kernel_rfl) ?_
  repeat (go_big_quiet_step (first | (go_at_call 18; exact ext_of (by simp) (root_any _ _)) | (go_at_call 19; exact ext_of (by simp) (snapdir_any _)) | (go_at_call 14; exact ext_of (by simp) (may_any _ _ _ _)) | (go_at_call 16; exact ext_of (by simp) (less_any _ _ _ _ _ _ _))))
  refine wpQuiet_nil ?_
  rintro w3 ⟨⟨_, hb3⟩, rfl⟩
  go_wp2
  go_ret
  exact ⟨by simp, by (repeat (first | exact Below.refl _ _ | refine Below.setCell ?_ (by first | omega | (simp; done) | (simp; omega)) _ | refine Below.alloc ?_ (by first | omega | (simp; done) | (simp; omega)) _ | refine Below.drew ?_ | refine below_drewN ?_ _ | refine Below.trans ?_ (Below.mono (by assumption) (by first | omega | (simp; done) | (simp; omega)))))⟩
end Go.Proofs.Yteiaihjdcdagoaa
