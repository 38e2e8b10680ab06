/- Walks of readers: jettyref01.NewReader; Word of both. -/
import Derived.Test.YteahlnoonmfjhaaRdC
set_option linter.unusedVariables false
set_option maxRecDepth 100000
namespace Go.Proofs.Yteahlnoonmfjhaa
open Go.RowKit

theorem rnewReader_any (v : Value) (l : List UInt8) (w : World) (hv : RS w v l) (h : l.length ≤ 900000) :
    Calls Try.prog 76 #[v] w fun e w' => ∃ g, e = .returned (.pointer (some ⟨g, 0, none⟩)) ∧ Rd 196 w' g (some l) ∧ w.heap.size ≤ g ∧ Below w.heap.size w w' := by
  obtain ⟨A, c, rfl⟩ := hv.form
  obtain ⟨v0, w0, hr0, ho0, hb0⟩ := appZ (ty := 47) (own_none (w := w) (T := 5)).z (srcS (hv.ext (ext_alloc w _))) (by simp) (by simp; omega)
  have hx0 : Ext w w0 := Below.trans (ext_alloc w _) hb0
  rw [List.nil_append] at ho0
  obtain ⟨A0, c0, rfl⟩ := ho0.rs.form
  go_enter Try.func76, Try.ntmps76
  go_wp2_with (at_builtin; refine wpList_app rfl _ _ _ _ rfl hr0 ?_)
  go_ret
  exact ⟨_, rfl, ⟨A0, c0, heap_alloc_last _ _, ho0.rs.ext (ext_alloc _ _)⟩, hx0.size, Below.trans hx0 ((ext_alloc w0 _ : Ext _ _).mono hx0.size)⟩

/-- The number of some bytes, the greatest first. -/
def beV (l : List UInt8) : Int := l.foldl (fun n b => n * 256 + (b.toNat : Int)) 0
theorem beV_snoc (l : List UInt8) (b : UInt8) : beV (l ++ [b]) = beV l * 256 + b.toNat := by simp [beV]
theorem beV_bd (l : List UInt8) : 0 ≤ beV l ∧ beV l < 256 ^ l.length := by
  have : ∀ (l : List UInt8) (n : Int), 0 ≤ n → 0 ≤ l.foldl (fun n b => n * 256 + (b.toNat : Int)) n ∧ l.foldl (fun n b => n * 256 + (b.toNat : Int)) n < (n + 1) * 256 ^ l.length := by
    intro l
    induction l with
    | nil => intro n h; simp; omega
    | cons b l ih =>
      intro n h
      have hb := b.toNat_lt
      obtain ⟨h1, h2⟩ := ih (n * 256 + b.toNat) (by omega)
      refine ⟨h1, Int.lt_of_lt_of_le h2 ?_⟩
      rw [List.length_cons, Int.pow_succ, Int.mul_comm (256 ^ l.length) 256, ← Int.mul_assoc]
      exact Int.mul_le_mul_of_nonneg_right (by omega) (Int.pow_nonneg (by omega))
  have h := this l 0 (by omega)
  simpa [beV] using h
theorem beV_lt {l : List UInt8} {k : Nat} (hl : l.length = k) : 0 ≤ beV l ∧ beV l < 256 ^ k := hl ▸ beV_bd l

theorem or_u32 (x b : Int) (hx : 0 ≤ x) (hx1 : x < 16777216) (hb : 0 ≤ b) (hb1 : b < 256) : bits .or .u32 (x * 256) b = x * 256 + b := by
  obtain ⟨m, rfl⟩ := Int.eq_ofNat_of_zero_le hx
  obtain ⟨k, rfl⟩ := Int.eq_ofNat_of_zero_le hb
  have e1 : ((m : Int) * 256) = ((m * 256 : Nat) : Int) := by omega
  rw [e1]
  have h1 : (BitVec.ofInt 32 ((m * 256 : Nat) : Int)).toNat = m * 256 := by rw [BitVec.ofInt_natCast, BitVec.toNat_ofNat]; exact Nat.mod_eq_of_lt (by omega)
  have h2 : (BitVec.ofInt 32 ((k : Nat) : Int)).toNat = k := by rw [BitVec.ofInt_natCast, BitVec.toNat_ofNat]; exact Nat.mod_eq_of_lt (by omega)
  have e2 : m * 256 ||| k = m * 256 + k := by
    have := Nat.two_pow_add_eq_or_of_lt (i := 8) (b := k) (by omega) m
    rw [show m * 256 = 2 ^ 8 * m by omega]; omega
  show IntKind.u32.wrap ((BitVec.ofInt 32 ((m * 256 : Nat) : Int) ||| BitVec.ofInt 32 ((k : Nat) : Int)).toNat : Int) = _
  rw [BitVec.toNat_or, h1, h2, e2]
  simp [IntKind.wrap, IntKind.bits, IntKind.signed]
  omega
end Go.Proofs.Yteahlnoonmfjhaa
