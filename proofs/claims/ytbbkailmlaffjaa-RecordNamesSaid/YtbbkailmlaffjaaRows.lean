/-
  No cell of these rows narrows 'for every input' (looked for: loops, veiled, ifaces, maps, wideKeys, modest, calm, conditions, laid).
  DERIVED. THE GIVEN ROWS OF THIS SEAT. 5 by the template 'for every input the law returns true; each argument reads behind the call as it read before'; 0 by the template 'total and deterministic' (their statements: YtbbkailmlaffjaaTotals.lean).
  GIVEN WITH THE SEED: the statements are not yours to turn. If you find one false, say at which input.
  Laid BY PROGRAM, IN A SANDBOX (cutbox-rows.mjs): the forced cells as the released guide's own fill.sh prints them over the translation 0de8b81d985a11b6… (all of the seat's roots in one cut). By AI agents, Wed Nov 11 2026. No macro, syntax, notation, axiom, sorry.
-/
import Derived.Test.YtbbkailmlaffjaaChecked
import GoSem.Claim
import GoSem.ClaimJoined
import GoSem.ClaimMapViews
import Derived.JoinedTies
import Derived.KernelRfl
namespace Go.Proofs.Ytbbkailmlaffjaa
/- THE CELL 'sum', in the pinned program and in every row, IS THE sha256 OF THE DUMP (.gsa) THAT YtbbkailmlaffjaaProg.lean LOADS. Nothing in Lean hashes anything: it is a label: what it is worth is what the hold of that sum in a sandbox is worth. -/
noncomputable def Try.pinned : Pinned := { name := "ytbbkailmlaffjaa", sum := "0de8b81d985a11b620941fa5f240bf5e0f6ea824e5cff1e6a9044999be279465", checked := Try.checked }
namespace Rows
def none {H : Type} : Left H := { results := [], args := [] }

/-- 'jettylaw02.RecordChunks': WHATEVER THE INPUT: true; the input reads as it did. -/
def recordChunksSpec : ChangeSpec := { name := "recordChunks", fn := fun _ => fun
  | [d1, d2] => { results := [.lit (.bool true)], args := [d1, d2] }
  | _ => none }
def recordChunksRow : OpenClaim := { program := "ytbbkailmlaffjaa", sum := "0de8b81d985a11b620941fa5f240bf5e0f6ea824e5cff1e6a9044999be279465", func := "jetty/jettylaw02.RecordChunks", spec := "recordChunks", unfollowed := true, recurses := true, apart := false }
def RecordChunksSaid : Prop := recordChunksRow.holds Try.pinned (OpenSpec.ofChange recordChunksSpec)

/-- ITS FALSE NEIGHBOUR: 'it returns false'. Refute it at one input. -/
def recordChunksWrong : ChangeSpec := { name := "recordChunks", fn := fun _ => fun
  | [d1, d2] => { results := [.lit (.bool false)], args := [d1, d2] }
  | _ => none }
def RecordChunksWrongFalsely : Prop := recordChunksRow.holds Try.pinned (OpenSpec.ofChange recordChunksWrong)

/-- 'jettylaw02.RecordWrites': WHATEVER THE INPUT: true; the input reads as it did. -/
def recordWritesSpec : ChangeSpec := { name := "recordWrites", fn := fun _ => fun
  | [d1, d2] => { results := [.lit (.bool true)], args := [d1, d2] }
  | _ => none }
def recordWritesRow : OpenClaim := { program := "ytbbkailmlaffjaa", sum := "0de8b81d985a11b620941fa5f240bf5e0f6ea824e5cff1e6a9044999be279465", func := "jetty/jettylaw02.RecordWrites", spec := "recordWrites", unfollowed := true, recurses := true, apart := false }
def RecordWritesSaid : Prop := recordWritesRow.holds Try.pinned (OpenSpec.ofChange recordWritesSpec)

/-- ITS FALSE NEIGHBOUR: 'it returns false'. Refute it at one input. -/
def recordWritesWrong : ChangeSpec := { name := "recordWrites", fn := fun _ => fun
  | [d1, d2] => { results := [.lit (.bool false)], args := [d1, d2] }
  | _ => none }
def RecordWritesWrongFalsely : Prop := recordWritesRow.holds Try.pinned (OpenSpec.ofChange recordWritesWrong)

/-- 'jettylaw02.RecordBack': WHATEVER THE INPUT: true; the input reads as it did. -/
def recordBackSpec : ChangeSpec := { name := "recordBack", fn := fun _ => fun
  | [d1, d2] => { results := [.lit (.bool true)], args := [d1, d2] }
  | _ => none }
def recordBackRow : OpenClaim := { program := "ytbbkailmlaffjaa", sum := "0de8b81d985a11b620941fa5f240bf5e0f6ea824e5cff1e6a9044999be279465", func := "jetty/jettylaw02.RecordBack", spec := "recordBack", unfollowed := true, recurses := true, apart := false }
def RecordBackSaid : Prop := recordBackRow.holds Try.pinned (OpenSpec.ofChange recordBackSpec)

/-- ITS FALSE NEIGHBOUR: 'it returns false'. Refute it at one input. -/
def recordBackWrong : ChangeSpec := { name := "recordBack", fn := fun _ => fun
  | [d1, d2] => { results := [.lit (.bool false)], args := [d1, d2] }
  | _ => none }
def RecordBackWrongFalsely : Prop := recordBackRow.holds Try.pinned (OpenSpec.ofChange recordBackWrong)

/-- 'jettylaw02.RecordFeeds': WHATEVER THE INPUT: true; the input reads as it did. -/
def recordFeedsSpec : ChangeSpec := { name := "recordFeeds", fn := fun _ => fun
  | [d] => { results := [.lit (.bool true)], args := [d] }
  | _ => none }
def recordFeedsRow : OpenClaim := { program := "ytbbkailmlaffjaa", sum := "0de8b81d985a11b620941fa5f240bf5e0f6ea824e5cff1e6a9044999be279465", func := "jetty/jettylaw02.RecordFeeds", spec := "recordFeeds", unfollowed := true, recurses := true, apart := false }
def RecordFeedsSaid : Prop := recordFeedsRow.holds Try.pinned (OpenSpec.ofChange recordFeedsSpec)

/-- ITS FALSE NEIGHBOUR: 'it returns false'. Refute it at one input. -/
def recordFeedsWrong : ChangeSpec := { name := "recordFeeds", fn := fun _ => fun
  | [d] => { results := [.lit (.bool false)], args := [d] }
  | _ => none }
def RecordFeedsWrongFalsely : Prop := recordFeedsRow.holds Try.pinned (OpenSpec.ofChange recordFeedsWrong)

/-- 'jettylaw02.RecordNames': WHATEVER THE INPUT: true; the input reads as it did. -/
def recordNamesSpec : ChangeSpec := { name := "recordNames", fn := fun _ => fun
  | [] => { results := [.lit (.bool true)], args := [] }
  | _ => none }
def recordNamesRow : OpenClaim := { program := "ytbbkailmlaffjaa", sum := "0de8b81d985a11b620941fa5f240bf5e0f6ea824e5cff1e6a9044999be279465", func := "jetty/jettylaw02.RecordNames", spec := "recordNames", unfollowed := true, recurses := true, apart := false }
def RecordNamesSaid : Prop := recordNamesRow.holds Try.pinned (OpenSpec.ofChange recordNamesSpec)

/-- ITS FALSE NEIGHBOUR: 'it returns false'. Refute it at one input. -/
def recordNamesWrong : ChangeSpec := { name := "recordNames", fn := fun _ => fun
  | [] => { results := [.lit (.bool false)], args := [] }
  | _ => none }
def RecordNamesWrongFalsely : Prop := recordNamesRow.holds Try.pinned (OpenSpec.ofChange recordNamesWrong)

/- THE SECOND FORM. 'bulk': how many values and letters a reading holds, each counted each time it is reached (what is shared counts as often as it is met; a slice's spare places count too). A statement '..UptoSaid' is the law's where the arguments, and the package variables that the reading takes, are together of bulk at most 1048576: NARROWER than '..Said'. Prove '..Said' where nothing that the law and all that it calls make is longer than what came in: it says more and counts as full. Else prove '..UptoSaid'. A law counts once. -/
mutual
def uptoBulk {H : Type} : DataW H → Nat
  | .lit (.string bytes) => bytes.length + 1
  | .lit _ => 1
  | .nil => 1
  | .ptr d => uptoBulk d + 1
  | .slice elems spare => uptoBulkAll elems + uptoBulkAll spare + 1
  | .agg parts => uptoBulkAll parts + 1
  | .iface _ d => uptoBulk d + 1
  | .map entries => uptoBulkEntries entries + 1
  | .held _ => 1
def uptoBulkAll {H : Type} : List (DataW H) → Nat
  | [] => 0
  | d :: r => uptoBulk d + uptoBulkAll r
def uptoBulkEntries {H : Type} : List (Lit × DataW H) → Nat
  | [] => 0
  | x :: r => uptoBulkEntry x + uptoBulkEntries r
def uptoBulkEntry {H : Type} : Lit × DataW H → Nat
  | (.string bytes, d) => bytes.length + uptoBulk d + 1
  | (_, d) => uptoBulk d + 1
 end
def uptoSmall : (H : Type) → List (DataW H) → Bool := fun _ ds => decide (uptoBulkAll ds ≤ 1048576)
def OpenSpec.upto (s : _root_.Go.ChangeSpec) : _root_.Go.OpenSpec := { _root_.Go.OpenSpec.ofChange s with cond := some uptoSmall }

/-- 'jettylaw02.RecordChunks', WHERE WHAT IT READS IS OF BULK AT MOST 1048576: true; the input reads as it did. -/
def recordChunksUptoRow : OpenClaim := { program := "ytbbkailmlaffjaa", sum := "0de8b81d985a11b620941fa5f240bf5e0f6ea824e5cff1e6a9044999be279465", func := "jetty/jettylaw02.RecordChunks", spec := "recordChunks", unfollowed := true, recurses := true, apart := false, narrowed := true }
def RecordChunksUptoSaid : Prop := recordChunksUptoRow.holds Try.pinned (OpenSpec.upto recordChunksSpec)

/-- 'jettylaw02.RecordWrites', WHERE WHAT IT READS IS OF BULK AT MOST 1048576: true; the input reads as it did. -/
def recordWritesUptoRow : OpenClaim := { program := "ytbbkailmlaffjaa", sum := "0de8b81d985a11b620941fa5f240bf5e0f6ea824e5cff1e6a9044999be279465", func := "jetty/jettylaw02.RecordWrites", spec := "recordWrites", unfollowed := true, recurses := true, apart := false, narrowed := true }
def RecordWritesUptoSaid : Prop := recordWritesUptoRow.holds Try.pinned (OpenSpec.upto recordWritesSpec)

/-- 'jettylaw02.RecordBack', WHERE WHAT IT READS IS OF BULK AT MOST 1048576: true; the input reads as it did. -/
def recordBackUptoRow : OpenClaim := { program := "ytbbkailmlaffjaa", sum := "0de8b81d985a11b620941fa5f240bf5e0f6ea824e5cff1e6a9044999be279465", func := "jetty/jettylaw02.RecordBack", spec := "recordBack", unfollowed := true, recurses := true, apart := false, narrowed := true }
def RecordBackUptoSaid : Prop := recordBackUptoRow.holds Try.pinned (OpenSpec.upto recordBackSpec)

/-- 'jettylaw02.RecordFeeds', WHERE WHAT IT READS IS OF BULK AT MOST 1048576: true; the input reads as it did. -/
def recordFeedsUptoRow : OpenClaim := { program := "ytbbkailmlaffjaa", sum := "0de8b81d985a11b620941fa5f240bf5e0f6ea824e5cff1e6a9044999be279465", func := "jetty/jettylaw02.RecordFeeds", spec := "recordFeeds", unfollowed := true, recurses := true, apart := false, narrowed := true }
def RecordFeedsUptoSaid : Prop := recordFeedsUptoRow.holds Try.pinned (OpenSpec.upto recordFeedsSpec)

/-- 'jettylaw02.RecordNames', WHERE WHAT IT READS IS OF BULK AT MOST 1048576: true; the input reads as it did. -/
def recordNamesUptoRow : OpenClaim := { program := "ytbbkailmlaffjaa", sum := "0de8b81d985a11b620941fa5f240bf5e0f6ea824e5cff1e6a9044999be279465", func := "jetty/jettylaw02.RecordNames", spec := "recordNames", unfollowed := true, recurses := true, apart := false, narrowed := true }
def RecordNamesUptoSaid : Prop := recordNamesUptoRow.holds Try.pinned (OpenSpec.upto recordNamesSpec)

end Rows
end Go.Proofs.Ytbbkailmlaffjaa
