/- Walks of package block: Decode (under way). -/
import Derived.Test.YtobcfocbglkicaaBlkK
set_option linter.unusedVariables false
set_option maxRecDepth 100000
namespace Go.Proofs.Ytobcfocbglkicaa
open Go.RowKit
/-- The pointer of bytes. -/
def pDec (l : List UInt8) : PtT × Int :=
  if l.length = 16 ∧ mayP (nAt l 0 4) (nAt l 4 4) (nAt l 8 8) = true then (⟨nAt l 0 4, nAt l 4 4, nAt l 8 8⟩, 0) else (⟨0, 0, 0⟩, 4)
theorem conv_str (w : World) (l : List UInt8) : ∃ v' w', (convert 9 38 (.string (str l))).run Try.prog w = .ok v' w' ∧ RS w' v' l ∧ Ext w w' := by
  refine ⟨_, _, bytes_of w l Try.underlying9 Try.underlying38 Try.underlying5, ?_, (Below.refl _ w).drew.alloc (Nat.le_refl _) _⟩
  exact rs_block (m := l ++ List.replicate (grownCap w l.length 0 5 - l.length) 0) (off := 0) (heap_alloc_last w.drew _) (by simp) (grownCap_ge w l.length 0 5)
theorem get_ext {w : World} {g : Nat} {T : TypeId} {fr : Nat × Nat} {l : List UInt8} (off len cap : Nat) (hg : w.heap[g]? = some (.cells (bvs l).toArray T fr)) (hl : off + len ≤ l.length) (h8 : len ≤ 8) (hc : len ≤ cap) :
    Calls Try.prog 84 #[.slice (some ⟨g, off, none⟩) len cap] w fun e w' => e = .returned (.int .u64 (nAt l off len)) ∧ Below w.heap.size w w' :=
  (get_at off len cap hg hl h8 hc).mono fun _ _ ⟨h1, h2⟩ => ⟨h1, by rw [h2]; exact Below.refl _ _⟩

end Go.Proofs.Ytobcfocbglkicaa
