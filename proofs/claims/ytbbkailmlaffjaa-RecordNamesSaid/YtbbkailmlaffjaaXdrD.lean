/- Walks of package jettyref01, that write: Word, Long, Int, Flag, Fixed, Text. -/
import Derived.Test.YtbbkailmlaffjaaXdrC
set_option linter.unusedVariables false
set_option maxRecDepth 100000
namespace Go.Proofs.Ytbbkailmlaffjaa
open Go.RowKit

/-- A new empty row. -/
theorem own_none {w : World} {T : TypeId} : Own (w.alloc (.cells #[] T)) w.heap.size T (.slice (some ⟨w.heap.size, 0, none⟩) 0 0) [] 0 :=
  ⟨w.heap.size, [], rfl, Nat.le_refl _, heap_alloc_last w _, rfl⟩
theorem ext_alloc (w : World) (o : Obj) : Ext w (w.alloc o) := (Below.refl _ w).alloc (Nat.le_refl _) o

/-- n, divided by 256, i times. -/
def q256 (n : Int) : Nat → Int
  | 0 => n
  | i + 1 => q256 n i / 256
theorem q256_eq (n : Int) : ∀ i, q256 n i = n / 2 ^ (8 * i)
  | 0 => by simp [q256]
  | i + 1 => by
    rw [q256, q256_eq n i, Int.ediv_ediv_of_nonneg (by exact_mod_cast Nat.zero_le _)]
    congr 1
    rw [show 8 * (i + 1) = 8 * i + 8 by omega, Int.pow_add]
    rfl
theorem q256_bd (n : Int) (h0 : 0 ≤ n) (h1 : n ≤ 4294967295) : ∀ i, 0 ≤ q256 n i ∧ q256 n i ≤ 4294967295
  | 0 => ⟨h0, h1⟩
  | i + 1 => by have := q256_bd n h0 h1 i; simp only [q256]; omega

theorem rs_oneI {w : World} {T : TypeId} (x : Int) : RS (w.alloc (.cells #[.int .u8 (x % 256)] T)) (.slice (some ⟨w.heap.size, 0, none⟩) 1 1) [byteOf x] := by
  rw [← bv_byteOf]
  exact rs_one _
theorem beN4_take (n : Int) : ∀ m, m < 4 → (beN n 4).take (m + 1) = (beN n 4).take m ++ [byteOf (q256 n (3 - m))]
  | 0, _ => by rw [q256_eq]; rfl
  | 1, _ => by rw [q256_eq]; rfl
  | 2, _ => by rw [q256_eq]; rfl
  | 3, _ => by rw [q256_eq]; rfl
  | m + 4, h => by omega

end Go.Proofs.Ytbbkailmlaffjaa
