/- A great region of RingNames: that it may be walked in its text's order (by itself: it takes 8 GB). No statement of its own. -/
import Derived.Test.YtobcfocbglkicaaRows
import Derived.Test.YtobcfocbglkicaaBase
set_option linter.unusedVariables false
set_option maxRecDepth 100000
namespace Go.Proofs.Ytobcfocbglkicaa
open Go

/-- The operations of a region. -/
def findR (id : Nat) : Code → Option (Array Oper)
  | .region i ops _ => if i == id then some ops else none
  | .seq a b => (findR id a).orElse fun _ => findR id b
  | .cond _ a b => (findR id a).orElse fun _ => findR id b
  | .block _ b => findR id b
  | .loop b => findR id b
  | .rangeFunc _ _ a b => (findR id a).orElse fun _ => findR id b
  | .scope b => findR id b
  | _ => none
theorem lex19 : Region.lexB .any ((findR 19 (Try.f11.body.getD .skip)).getD #[]) = true := by kernel_rfl
end Go.Proofs.Ytobcfocbglkicaa
