/-
  No cell of these rows narrows 'for every input' (looked for: loops, veiled, ifaces, maps, wideKeys, modest, calm, conditions, laid).
  DERIVED. THE GIVEN ROWS OF THIS SEAT. 7 by the template 'for every input the law returns true; each argument reads behind the call as it read before'; 0 by the template 'total and deterministic' (their statements: YtiihlbaajopllaaTotals.lean).
  GIVEN WITH THE SEED: the statements are not yours to turn. If you find one false, say at which input.
  Laid BY PROGRAM, IN A SANDBOX (cutbox-rows.mjs): the forced cells as the released guide's own fill.sh prints them over the translation f9ba3951617ef6c3… (all of the seat's roots in one cut). By AI agents, Wed Nov 11 2026. No macro, syntax, notation, axiom, sorry.
-/
import Derived.Test.YtiihlbaajopllaaChecked
import GoSem.Claim
import GoSem.ClaimJoined
import GoSem.ClaimMapViews
import Derived.JoinedTies
import Derived.KernelRfl
namespace Go.Proofs.Ytiihlbaajopllaa
/- THE CELL 'sum', in the pinned program and in every row, IS THE sha256 OF THE DUMP (.gsa) THAT YtiihlbaajopllaaProg.lean LOADS. Nothing in Lean hashes anything: it is a label: what it is worth is what the hold of that sum in a sandbox is worth. -/
noncomputable def Try.pinned : Pinned := { name := "ytiihlbaajopllaa", sum := "f9ba3951617ef6c3d3bdfb209bdb8b10586e9c5e92ba604e08fab4346cf235ba", checked := Try.checked }
namespace Rows
def none {H : Type} : Left H := { results := [], args := [] }

/-- 'jettylaw18.LocksFair': WHATEVER THE INPUT: true; the input reads as it did. -/
def locksFairSpec : ChangeSpec := { name := "locksFair", fn := fun _ => fun
  | [d] => { results := [.lit (.bool true)], args := [d] }
  | _ => none }
def locksFairRow : OpenClaim := { program := "ytiihlbaajopllaa", sum := "f9ba3951617ef6c3d3bdfb209bdb8b10586e9c5e92ba604e08fab4346cf235ba", func := "jetty/jettylaw18.LocksFair", spec := "locksFair", unfollowed := true, recurses := true, apart := false }
def LocksFairSaid : Prop := locksFairRow.holds Try.pinned (OpenSpec.ofChange locksFairSpec)

/-- ITS FALSE NEIGHBOUR: 'it returns false'. Refute it at one input. -/
def locksFairWrong : ChangeSpec := { name := "locksFair", fn := fun _ => fun
  | [d] => { results := [.lit (.bool false)], args := [d] }
  | _ => none }
def LocksFairWrongFalsely : Prop := locksFairRow.holds Try.pinned (OpenSpec.ofChange locksFairWrong)

/-- 'jettylaw18.LocksPlays': WHATEVER THE INPUT: true; the input reads as it did. -/
def locksPlaysSpec : ChangeSpec := { name := "locksPlays", fn := fun _ => fun
  | [d] => { results := [.lit (.bool true)], args := [d] }
  | _ => none }
def locksPlaysRow : OpenClaim := { program := "ytiihlbaajopllaa", sum := "f9ba3951617ef6c3d3bdfb209bdb8b10586e9c5e92ba604e08fab4346cf235ba", func := "jetty/jettylaw18.LocksPlays", spec := "locksPlays", unfollowed := true, recurses := true, apart := false }
def LocksPlaysSaid : Prop := locksPlaysRow.holds Try.pinned (OpenSpec.ofChange locksPlaysSpec)

/-- ITS FALSE NEIGHBOUR: 'it returns false'. Refute it at one input. -/
def locksPlaysWrong : ChangeSpec := { name := "locksPlays", fn := fun _ => fun
  | [d] => { results := [.lit (.bool false)], args := [d] }
  | _ => none }
def LocksPlaysWrongFalsely : Prop := locksPlaysRow.holds Try.pinned (OpenSpec.ofChange locksPlaysWrong)

/-- 'jettylaw18.LocksNames': WHATEVER THE INPUT: true; the input reads as it did. -/
def locksNamesSpec : ChangeSpec := { name := "locksNames", fn := fun _ => fun
  | [] => { results := [.lit (.bool true)], args := [] }
  | _ => none }
def locksNamesRow : OpenClaim := { program := "ytiihlbaajopllaa", sum := "f9ba3951617ef6c3d3bdfb209bdb8b10586e9c5e92ba604e08fab4346cf235ba", func := "jetty/jettylaw18.LocksNames", spec := "locksNames", unfollowed := true, recurses := true, apart := false }
def LocksNamesSaid : Prop := locksNamesRow.holds Try.pinned (OpenSpec.ofChange locksNamesSpec)

/-- ITS FALSE NEIGHBOUR: 'it returns false'. Refute it at one input. -/
def locksNamesWrong : ChangeSpec := { name := "locksNames", fn := fun _ => fun
  | [] => { results := [.lit (.bool false)], args := [] }
  | _ => none }
def LocksNamesWrongFalsely : Prop := locksNamesRow.holds Try.pinned (OpenSpec.ofChange locksNamesWrong)

/-- 'jettylaw19.TasksTurns': WHATEVER THE INPUT: true; the input reads as it did. -/
def tasksTurnsSpec : ChangeSpec := { name := "tasksTurns", fn := fun _ => fun
  | [d1, d2, d3] => { results := [.lit (.bool true)], args := [d1, d2, d3] }
  | _ => none }
def tasksTurnsRow : OpenClaim := { program := "ytiihlbaajopllaa", sum := "f9ba3951617ef6c3d3bdfb209bdb8b10586e9c5e92ba604e08fab4346cf235ba", func := "jetty/jettylaw19.TasksTurns", spec := "tasksTurns", unfollowed := true, recurses := true, apart := false }
def TasksTurnsSaid : Prop := tasksTurnsRow.holds Try.pinned (OpenSpec.ofChange tasksTurnsSpec)

/-- ITS FALSE NEIGHBOUR: 'it returns false'. Refute it at one input. -/
def tasksTurnsWrong : ChangeSpec := { name := "tasksTurns", fn := fun _ => fun
  | [d1, d2, d3] => { results := [.lit (.bool false)], args := [d1, d2, d3] }
  | _ => none }
def TasksTurnsWrongFalsely : Prop := tasksTurnsRow.holds Try.pinned (OpenSpec.ofChange tasksTurnsWrong)

/-- 'jettylaw19.TasksEnd': WHATEVER THE INPUT: true; the input reads as it did. -/
def tasksEndSpec : ChangeSpec := { name := "tasksEnd", fn := fun _ => fun
  | [d1, d2] => { results := [.lit (.bool true)], args := [d1, d2] }
  | _ => none }
def tasksEndRow : OpenClaim := { program := "ytiihlbaajopllaa", sum := "f9ba3951617ef6c3d3bdfb209bdb8b10586e9c5e92ba604e08fab4346cf235ba", func := "jetty/jettylaw19.TasksEnd", spec := "tasksEnd", unfollowed := true, recurses := true, apart := false }
def TasksEndSaid : Prop := tasksEndRow.holds Try.pinned (OpenSpec.ofChange tasksEndSpec)

/-- ITS FALSE NEIGHBOUR: 'it returns false'. Refute it at one input. -/
def tasksEndWrong : ChangeSpec := { name := "tasksEnd", fn := fun _ => fun
  | [d1, d2] => { results := [.lit (.bool false)], args := [d1, d2] }
  | _ => none }
def TasksEndWrongFalsely : Prop := tasksEndRow.holds Try.pinned (OpenSpec.ofChange tasksEndWrong)

/-- 'jettylaw19.TasksNames': WHATEVER THE INPUT: true; the input reads as it did. -/
def tasksNamesSpec : ChangeSpec := { name := "tasksNames", fn := fun _ => fun
  | [] => { results := [.lit (.bool true)], args := [] }
  | _ => none }
def tasksNamesRow : OpenClaim := { program := "ytiihlbaajopllaa", sum := "f9ba3951617ef6c3d3bdfb209bdb8b10586e9c5e92ba604e08fab4346cf235ba", func := "jetty/jettylaw19.TasksNames", spec := "tasksNames", inPlace := ["maps.clone"], unfollowed := true, recurses := true, apart := false }
def TasksNamesSaid : Prop := tasksNamesRow.holds Try.pinned (OpenSpec.ofChange tasksNamesSpec)

/-- ITS FALSE NEIGHBOUR: 'it returns false'. Refute it at one input. -/
def tasksNamesWrong : ChangeSpec := { name := "tasksNames", fn := fun _ => fun
  | [] => { results := [.lit (.bool false)], args := [] }
  | _ => none }
def TasksNamesWrongFalsely : Prop := tasksNamesRow.holds Try.pinned (OpenSpec.ofChange tasksNamesWrong)

/-- 'jettylaw19.TasksPlay': WHATEVER THE INPUT: true; the input reads as it did. -/
def tasksPlaySpec : ChangeSpec := { name := "tasksPlay", fn := fun _ => fun
  | [d] => { results := [.lit (.bool true)], args := [d] }
  | _ => none }
def tasksPlayRow : OpenClaim := { program := "ytiihlbaajopllaa", sum := "f9ba3951617ef6c3d3bdfb209bdb8b10586e9c5e92ba604e08fab4346cf235ba", func := "jetty/jettylaw19.TasksPlay", spec := "tasksPlay", inPlace := ["maps.clone"], unfollowed := true, recurses := true, apart := false }
def TasksPlaySaid : Prop := tasksPlayRow.holds Try.pinned (OpenSpec.ofChange tasksPlaySpec)

/-- ITS FALSE NEIGHBOUR: 'it returns false'. Refute it at one input. -/
def tasksPlayWrong : ChangeSpec := { name := "tasksPlay", fn := fun _ => fun
  | [d] => { results := [.lit (.bool false)], args := [d] }
  | _ => none }
def TasksPlayWrongFalsely : Prop := tasksPlayRow.holds Try.pinned (OpenSpec.ofChange tasksPlayWrong)

/- THE SECOND FORM. 'bulk': how many values and letters a reading holds, each counted each time it is reached (what is shared counts as often as it is met; a slice's spare places count too). A statement '..UptoSaid' is the law's where the arguments, and the package variables that the reading takes, are together of bulk at most 1048576: NARROWER than '..Said'. Prove '..Said' where nothing that the law and all that it calls make is longer than what came in: it says more and counts as full. Else prove '..UptoSaid'. A law counts once. -/
mutual
def uptoBulk {H : Type} : DataW H → Nat
  | .lit (.string bytes) => bytes.length + 1
  | .lit _ => 1
  | .nil => 1
  | .ptr d => uptoBulk d + 1
  | .slice elems spare => uptoBulkAll elems + uptoBulkAll spare + 1
  | .agg parts => uptoBulkAll parts + 1
  | .iface _ d => uptoBulk d + 1
  | .map entries => uptoBulkEntries entries + 1
  | .held _ => 1
def uptoBulkAll {H : Type} : List (DataW H) → Nat
  | [] => 0
  | d :: r => uptoBulk d + uptoBulkAll r
def uptoBulkEntries {H : Type} : List (Lit × DataW H) → Nat
  | [] => 0
  | x :: r => uptoBulkEntry x + uptoBulkEntries r
def uptoBulkEntry {H : Type} : Lit × DataW H → Nat
  | (.string bytes, d) => bytes.length + uptoBulk d + 1
  | (_, d) => uptoBulk d + 1
 end
def uptoSmall : (H : Type) → List (DataW H) → Bool := fun _ ds => decide (uptoBulkAll ds ≤ 1048576)
def OpenSpec.upto (s : _root_.Go.ChangeSpec) : _root_.Go.OpenSpec := { _root_.Go.OpenSpec.ofChange s with cond := some uptoSmall }

/-- 'jettylaw18.LocksFair', WHERE WHAT IT READS IS OF BULK AT MOST 1048576: true; the input reads as it did. -/
def locksFairUptoRow : OpenClaim := { program := "ytiihlbaajopllaa", sum := "f9ba3951617ef6c3d3bdfb209bdb8b10586e9c5e92ba604e08fab4346cf235ba", func := "jetty/jettylaw18.LocksFair", spec := "locksFair", unfollowed := true, recurses := true, apart := false, narrowed := true }
def LocksFairUptoSaid : Prop := locksFairUptoRow.holds Try.pinned (OpenSpec.upto locksFairSpec)

/-- 'jettylaw18.LocksPlays', WHERE WHAT IT READS IS OF BULK AT MOST 1048576: true; the input reads as it did. -/
def locksPlaysUptoRow : OpenClaim := { program := "ytiihlbaajopllaa", sum := "f9ba3951617ef6c3d3bdfb209bdb8b10586e9c5e92ba604e08fab4346cf235ba", func := "jetty/jettylaw18.LocksPlays", spec := "locksPlays", unfollowed := true, recurses := true, apart := false, narrowed := true }
def LocksPlaysUptoSaid : Prop := locksPlaysUptoRow.holds Try.pinned (OpenSpec.upto locksPlaysSpec)

/-- 'jettylaw18.LocksNames', WHERE WHAT IT READS IS OF BULK AT MOST 1048576: true; the input reads as it did. -/
def locksNamesUptoRow : OpenClaim := { program := "ytiihlbaajopllaa", sum := "f9ba3951617ef6c3d3bdfb209bdb8b10586e9c5e92ba604e08fab4346cf235ba", func := "jetty/jettylaw18.LocksNames", spec := "locksNames", unfollowed := true, recurses := true, apart := false, narrowed := true }
def LocksNamesUptoSaid : Prop := locksNamesUptoRow.holds Try.pinned (OpenSpec.upto locksNamesSpec)

/-- 'jettylaw19.TasksTurns', WHERE WHAT IT READS IS OF BULK AT MOST 1048576: true; the input reads as it did. -/
def tasksTurnsUptoRow : OpenClaim := { program := "ytiihlbaajopllaa", sum := "f9ba3951617ef6c3d3bdfb209bdb8b10586e9c5e92ba604e08fab4346cf235ba", func := "jetty/jettylaw19.TasksTurns", spec := "tasksTurns", unfollowed := true, recurses := true, apart := false, narrowed := true }
def TasksTurnsUptoSaid : Prop := tasksTurnsUptoRow.holds Try.pinned (OpenSpec.upto tasksTurnsSpec)

/-- 'jettylaw19.TasksEnd', WHERE WHAT IT READS IS OF BULK AT MOST 1048576: true; the input reads as it did. -/
def tasksEndUptoRow : OpenClaim := { program := "ytiihlbaajopllaa", sum := "f9ba3951617ef6c3d3bdfb209bdb8b10586e9c5e92ba604e08fab4346cf235ba", func := "jetty/jettylaw19.TasksEnd", spec := "tasksEnd", unfollowed := true, recurses := true, apart := false, narrowed := true }
def TasksEndUptoSaid : Prop := tasksEndUptoRow.holds Try.pinned (OpenSpec.upto tasksEndSpec)

/-- 'jettylaw19.TasksNames', WHERE WHAT IT READS IS OF BULK AT MOST 1048576: true; the input reads as it did. -/
def tasksNamesUptoRow : OpenClaim := { program := "ytiihlbaajopllaa", sum := "f9ba3951617ef6c3d3bdfb209bdb8b10586e9c5e92ba604e08fab4346cf235ba", func := "jetty/jettylaw19.TasksNames", spec := "tasksNames", inPlace := ["maps.clone"], unfollowed := true, recurses := true, apart := false, narrowed := true }
def TasksNamesUptoSaid : Prop := tasksNamesUptoRow.holds Try.pinned (OpenSpec.upto tasksNamesSpec)

/-- 'jettylaw19.TasksPlay', WHERE WHAT IT READS IS OF BULK AT MOST 1048576: true; the input reads as it did. -/
def tasksPlayUptoRow : OpenClaim := { program := "ytiihlbaajopllaa", sum := "f9ba3951617ef6c3d3bdfb209bdb8b10586e9c5e92ba604e08fab4346cf235ba", func := "jetty/jettylaw19.TasksPlay", spec := "tasksPlay", inPlace := ["maps.clone"], unfollowed := true, recurses := true, apart := false, narrowed := true }
def TasksPlayUptoSaid : Prop := tasksPlayUptoRow.holds Try.pinned (OpenSpec.upto tasksPlaySpec)

end Rows
end Go.Proofs.Ytiihlbaajopllaa
