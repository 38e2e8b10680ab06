/- Walks of package xdr, that write: pad, Text, Fixed. -/
import Derived.Test.YtbbkailmlaffjaaXdrB
set_option linter.unusedVariables false
set_option maxRecDepth 100000
namespace Go.Proofs.Ytbbkailmlaffjaa
open Go.RowKit

def zs (n : Nat) : List UInt8 := List.replicate n 0
theorem zs_length (n : Nat) : (zs n).length = n := by simp [zs]

/-- One byte in a new block. -/
theorem rs_one {w : World} {T : TypeId} (b : UInt8) : RS (w.alloc (.cells #[bv b] T)) (.slice (some ⟨w.heap.size, 0, none⟩) 1 1) [b] :=
  rs_block (l := [b]) (m := [b]) (off := 0) (c := 1) (heap_alloc_last w _) rfl (Nat.le_refl _)

/-- A text, and the 00s behind it. -/
def fixL (s : List UInt8) : List UInt8 := s ++ zs (padN s.length)
theorem padN_le (n : Nat) : padN n ≤ 3 := by unfold padN; omega
theorem fixL_length (s : List UInt8) : (fixL s).length = s.length + padN s.length := by simp [fixL, zs]

end Go.Proofs.Ytbbkailmlaffjaa
