/-
  No cell of these rows narrows 'for every input' (looked for: loops, veiled, ifaces, maps, wideKeys, modest, calm, conditions, laid).
  DERIVED. THE GIVEN ROWS OF THIS SEAT. 8 by the template 'for every input the law returns true; each argument reads behind the call as it read before'; 0 by the template 'total and deterministic' (their statements: YteahlnoonmfjhaaTotals.lean).
  GIVEN WITH THE SEED: the statements are not yours to turn. If you find one false, say at which input.
  Laid BY PROGRAM, IN A SANDBOX (cutbox-rows.mjs): the forced cells as the released guide's own fill.sh prints them over the translation ef8b22121721ec35… (all of the seat's roots in one cut). By AI agents, Wed Nov 11 2026. No macro, syntax, notation, axiom, sorry.
-/
import Derived.Test.YteahlnoonmfjhaaChecked
import GoSem.Claim
import GoSem.ClaimJoined
import GoSem.ClaimMapViews
import Derived.JoinedTies
import Derived.KernelRfl
namespace Go.Proofs.Yteahlnoonmfjhaa
/- THE CELL 'sum', in the pinned program and in every row, IS THE sha256 OF THE DUMP (.gsa) THAT YteahlnoonmfjhaaProg.lean LOADS. Nothing in Lean hashes anything: it is a label: what it is worth is what the hold of that sum in a sandbox is worth. -/
noncomputable def Try.pinned : Pinned := { name := "yteahlnoonmfjhaa", sum := "ef8b22121721ec358953592ab06b11a46ad364903a2326dfdaf6c6ad03fd9907", checked := Try.checked }
namespace Rows
def none {H : Type} : Left H := { results := [], args := [] }

/-- 'jettylaw30.NetNames': WHATEVER THE INPUT: true; the input reads as it did. -/
def netNamesSpec : ChangeSpec := { name := "netNames", fn := fun _ => fun
  | [] => { results := [.lit (.bool true)], args := [] }
  | _ => none }
def netNamesRow : OpenClaim := { program := "yteahlnoonmfjhaa", sum := "ef8b22121721ec358953592ab06b11a46ad364903a2326dfdaf6c6ad03fd9907", func := "jetty/jettylaw30.NetNames", spec := "netNames", unfollowed := true, recurses := true, plainKeys := false, apart := false }
def NetNamesSaid : Prop := netNamesRow.holds Try.pinned (OpenSpec.ofChange netNamesSpec)

/-- ITS FALSE NEIGHBOUR: 'it returns false'. Refute it at one input. -/
def netNamesWrong : ChangeSpec := { name := "netNames", fn := fun _ => fun
  | [] => { results := [.lit (.bool false)], args := [] }
  | _ => none }
def NetNamesWrongFalsely : Prop := netNamesRow.holds Try.pinned (OpenSpec.ofChange netNamesWrong)

/-- 'jettylaw05.ArgsWords': WHATEVER THE INPUT: true; the input reads as it did. -/
def argsWordsSpec : ChangeSpec := { name := "argsWords", fn := fun _ => fun
  | [d1, d2, d3] => { results := [.lit (.bool true)], args := [d1, d2, d3] }
  | _ => none }
def argsWordsRow : OpenClaim := { program := "yteahlnoonmfjhaa", sum := "ef8b22121721ec358953592ab06b11a46ad364903a2326dfdaf6c6ad03fd9907", func := "jetty/jettylaw05.ArgsWords", spec := "argsWords", unfollowed := true, recurses := true, plainKeys := false, apart := false }
def ArgsWordsSaid : Prop := argsWordsRow.holds Try.pinned (OpenSpec.ofChange argsWordsSpec)

/-- ITS FALSE NEIGHBOUR: 'it returns false'. Refute it at one input. -/
def argsWordsWrong : ChangeSpec := { name := "argsWords", fn := fun _ => fun
  | [d1, d2, d3] => { results := [.lit (.bool false)], args := [d1, d2, d3] }
  | _ => none }
def ArgsWordsWrongFalsely : Prop := argsWordsRow.holds Try.pinned (OpenSpec.ofChange argsWordsWrong)

/-- 'jettylaw05.ArgsResults': WHATEVER THE INPUT: true; the input reads as it did. -/
def argsResultsSpec : ChangeSpec := { name := "argsResults", fn := fun _ => fun
  | [d1, d2, d3] => { results := [.lit (.bool true)], args := [d1, d2, d3] }
  | _ => none }
def argsResultsRow : OpenClaim := { program := "yteahlnoonmfjhaa", sum := "ef8b22121721ec358953592ab06b11a46ad364903a2326dfdaf6c6ad03fd9907", func := "jetty/jettylaw05.ArgsResults", spec := "argsResults", unfollowed := true, recurses := true, plainKeys := false, apart := false }
def ArgsResultsSaid : Prop := argsResultsRow.holds Try.pinned (OpenSpec.ofChange argsResultsSpec)

/-- ITS FALSE NEIGHBOUR: 'it returns false'. Refute it at one input. -/
def argsResultsWrong : ChangeSpec := { name := "argsResults", fn := fun _ => fun
  | [d1, d2, d3] => { results := [.lit (.bool false)], args := [d1, d2, d3] }
  | _ => none }
def ArgsResultsWrongFalsely : Prop := argsResultsRow.holds Try.pinned (OpenSpec.ofChange argsResultsWrong)

/-- 'jettylaw05.ArgsNames': WHATEVER THE INPUT: true; the input reads as it did. -/
def argsNamesSpec : ChangeSpec := { name := "argsNames", fn := fun _ => fun
  | [] => { results := [.lit (.bool true)], args := [] }
  | _ => none }
def argsNamesRow : OpenClaim := { program := "yteahlnoonmfjhaa", sum := "ef8b22121721ec358953592ab06b11a46ad364903a2326dfdaf6c6ad03fd9907", func := "jetty/jettylaw05.ArgsNames", spec := "argsNames", unfollowed := true, recurses := true, plainKeys := false, apart := false }
def ArgsNamesSaid : Prop := argsNamesRow.holds Try.pinned (OpenSpec.ofChange argsNamesSpec)

/-- ITS FALSE NEIGHBOUR: 'it returns false'. Refute it at one input. -/
def argsNamesWrong : ChangeSpec := { name := "argsNames", fn := fun _ => fun
  | [] => { results := [.lit (.bool false)], args := [] }
  | _ => none }
def ArgsNamesWrongFalsely : Prop := argsNamesRow.holds Try.pinned (OpenSpec.ofChange argsNamesWrong)

/-- 'jettylaw05.ArgsBack': WHATEVER THE INPUT: true; the input reads as it did. -/
def argsBackSpec : ChangeSpec := { name := "argsBack", fn := fun _ => fun
  | [d1, d2, d3, d4] => { results := [.lit (.bool true)], args := [d1, d2, d3, d4] }
  | _ => none }
def argsBackRow : OpenClaim := { program := "yteahlnoonmfjhaa", sum := "ef8b22121721ec358953592ab06b11a46ad364903a2326dfdaf6c6ad03fd9907", func := "jetty/jettylaw05.ArgsBack", spec := "argsBack", unfollowed := true, recurses := true, plainKeys := false, apart := false }
def ArgsBackSaid : Prop := argsBackRow.holds Try.pinned (OpenSpec.ofChange argsBackSpec)

/-- ITS FALSE NEIGHBOUR: 'it returns false'. Refute it at one input. -/
def argsBackWrong : ChangeSpec := { name := "argsBack", fn := fun _ => fun
  | [d1, d2, d3, d4] => { results := [.lit (.bool false)], args := [d1, d2, d3, d4] }
  | _ => none }
def ArgsBackWrongFalsely : Prop := argsBackRow.holds Try.pinned (OpenSpec.ofChange argsBackWrong)

/-- 'jettylaw30.NetNone': WHATEVER THE INPUT: true; the input reads as it did. -/
def netNoneSpec : ChangeSpec := { name := "netNone", fn := fun _ => fun
  | [d] => { results := [.lit (.bool true)], args := [d] }
  | _ => none }
def netNoneRow : OpenClaim := { program := "yteahlnoonmfjhaa", sum := "ef8b22121721ec358953592ab06b11a46ad364903a2326dfdaf6c6ad03fd9907", func := "jetty/jettylaw30.NetNone", spec := "netNone", unfollowed := true, recurses := true, plainKeys := false, apart := false }
def NetNoneSaid : Prop := netNoneRow.holds Try.pinned (OpenSpec.ofChange netNoneSpec)

/-- ITS FALSE NEIGHBOUR: 'it returns false'. Refute it at one input. -/
def netNoneWrong : ChangeSpec := { name := "netNone", fn := fun _ => fun
  | [d] => { results := [.lit (.bool false)], args := [d] }
  | _ => none }
def NetNoneWrongFalsely : Prop := netNoneRow.holds Try.pinned (OpenSpec.ofChange netNoneWrong)

/-- 'jettylaw30.NetOnce': WHATEVER THE INPUT: true; the input reads as it did. -/
def netOnceSpec : ChangeSpec := { name := "netOnce", fn := fun _ => fun
  | [d1, d2] => { results := [.lit (.bool true)], args := [d1, d2] }
  | _ => none }
def netOnceRow : OpenClaim := { program := "yteahlnoonmfjhaa", sum := "ef8b22121721ec358953592ab06b11a46ad364903a2326dfdaf6c6ad03fd9907", func := "jetty/jettylaw30.NetOnce", spec := "netOnce", unfollowed := true, recurses := true, plainKeys := false, apart := false }
def NetOnceSaid : Prop := netOnceRow.holds Try.pinned (OpenSpec.ofChange netOnceSpec)

/-- ITS FALSE NEIGHBOUR: 'it returns false'. Refute it at one input. -/
def netOnceWrong : ChangeSpec := { name := "netOnce", fn := fun _ => fun
  | [d1, d2] => { results := [.lit (.bool false)], args := [d1, d2] }
  | _ => none }
def NetOnceWrongFalsely : Prop := netOnceRow.holds Try.pinned (OpenSpec.ofChange netOnceWrong)

/-- 'jettylaw30.NetPlays': WHATEVER THE INPUT: true; the input reads as it did. -/
def netPlaysSpec : ChangeSpec := { name := "netPlays", fn := fun _ => fun
  | [d] => { results := [.lit (.bool true)], args := [d] }
  | _ => none }
def netPlaysRow : OpenClaim := { program := "yteahlnoonmfjhaa", sum := "ef8b22121721ec358953592ab06b11a46ad364903a2326dfdaf6c6ad03fd9907", func := "jetty/jettylaw30.NetPlays", spec := "netPlays", unfollowed := true, recurses := true, plainKeys := false, apart := false }
def NetPlaysSaid : Prop := netPlaysRow.holds Try.pinned (OpenSpec.ofChange netPlaysSpec)

/-- ITS FALSE NEIGHBOUR: 'it returns false'. Refute it at one input. -/
def netPlaysWrong : ChangeSpec := { name := "netPlays", fn := fun _ => fun
  | [d] => { results := [.lit (.bool false)], args := [d] }
  | _ => none }
def NetPlaysWrongFalsely : Prop := netPlaysRow.holds Try.pinned (OpenSpec.ofChange netPlaysWrong)

/- THE SECOND FORM. 'bulk': how many values and letters a reading holds, each counted each time it is reached (what is shared counts as often as it is met; a slice's spare places count too). A statement '..UptoSaid' is the law's where the arguments, and the package variables that the reading takes, are together of bulk at most 1048576: NARROWER than '..Said'. Prove '..Said' where nothing that the law and all that it calls make is longer than what came in: it says more and counts as full. Else prove '..UptoSaid'. A law counts once. -/
mutual
def uptoBulk {H : Type} : DataW H → Nat
  | .lit (.string bytes) => bytes.length + 1
  | .lit _ => 1
  | .nil => 1
  | .ptr d => uptoBulk d + 1
  | .slice elems spare => uptoBulkAll elems + uptoBulkAll spare + 1
  | .agg parts => uptoBulkAll parts + 1
  | .iface _ d => uptoBulk d + 1
  | .map entries => uptoBulkEntries entries + 1
  | .held _ => 1
def uptoBulkAll {H : Type} : List (DataW H) → Nat
  | [] => 0
  | d :: r => uptoBulk d + uptoBulkAll r
def uptoBulkEntries {H : Type} : List (Lit × DataW H) → Nat
  | [] => 0
  | x :: r => uptoBulkEntry x + uptoBulkEntries r
def uptoBulkEntry {H : Type} : Lit × DataW H → Nat
  | (.string bytes, d) => bytes.length + uptoBulk d + 1
  | (_, d) => uptoBulk d + 1
 end
def uptoSmall : (H : Type) → List (DataW H) → Bool := fun _ ds => decide (uptoBulkAll ds ≤ 1048576)
def OpenSpec.upto (s : _root_.Go.ChangeSpec) : _root_.Go.OpenSpec := { _root_.Go.OpenSpec.ofChange s with cond := some uptoSmall }

/-- 'jettylaw30.NetNames', WHERE WHAT IT READS IS OF BULK AT MOST 1048576: true; the input reads as it did. -/
def netNamesUptoRow : OpenClaim := { program := "yteahlnoonmfjhaa", sum := "ef8b22121721ec358953592ab06b11a46ad364903a2326dfdaf6c6ad03fd9907", func := "jetty/jettylaw30.NetNames", spec := "netNames", unfollowed := true, recurses := true, plainKeys := false, apart := false, narrowed := true }
def NetNamesUptoSaid : Prop := netNamesUptoRow.holds Try.pinned (OpenSpec.upto netNamesSpec)

/-- 'jettylaw05.ArgsWords', WHERE WHAT IT READS IS OF BULK AT MOST 1048576: true; the input reads as it did. -/
def argsWordsUptoRow : OpenClaim := { program := "yteahlnoonmfjhaa", sum := "ef8b22121721ec358953592ab06b11a46ad364903a2326dfdaf6c6ad03fd9907", func := "jetty/jettylaw05.ArgsWords", spec := "argsWords", unfollowed := true, recurses := true, plainKeys := false, apart := false, narrowed := true }
def ArgsWordsUptoSaid : Prop := argsWordsUptoRow.holds Try.pinned (OpenSpec.upto argsWordsSpec)

/-- 'jettylaw05.ArgsResults', WHERE WHAT IT READS IS OF BULK AT MOST 1048576: true; the input reads as it did. -/
def argsResultsUptoRow : OpenClaim := { program := "yteahlnoonmfjhaa", sum := "ef8b22121721ec358953592ab06b11a46ad364903a2326dfdaf6c6ad03fd9907", func := "jetty/jettylaw05.ArgsResults", spec := "argsResults", unfollowed := true, recurses := true, plainKeys := false, apart := false, narrowed := true }
def ArgsResultsUptoSaid : Prop := argsResultsUptoRow.holds Try.pinned (OpenSpec.upto argsResultsSpec)

/-- 'jettylaw05.ArgsNames', WHERE WHAT IT READS IS OF BULK AT MOST 1048576: true; the input reads as it did. -/
def argsNamesUptoRow : OpenClaim := { program := "yteahlnoonmfjhaa", sum := "ef8b22121721ec358953592ab06b11a46ad364903a2326dfdaf6c6ad03fd9907", func := "jetty/jettylaw05.ArgsNames", spec := "argsNames", unfollowed := true, recurses := true, plainKeys := false, apart := false, narrowed := true }
def ArgsNamesUptoSaid : Prop := argsNamesUptoRow.holds Try.pinned (OpenSpec.upto argsNamesSpec)

/-- 'jettylaw05.ArgsBack', WHERE WHAT IT READS IS OF BULK AT MOST 1048576: true; the input reads as it did. -/
def argsBackUptoRow : OpenClaim := { program := "yteahlnoonmfjhaa", sum := "ef8b22121721ec358953592ab06b11a46ad364903a2326dfdaf6c6ad03fd9907", func := "jetty/jettylaw05.ArgsBack", spec := "argsBack", unfollowed := true, recurses := true, plainKeys := false, apart := false, narrowed := true }
def ArgsBackUptoSaid : Prop := argsBackUptoRow.holds Try.pinned (OpenSpec.upto argsBackSpec)

/-- 'jettylaw30.NetNone', WHERE WHAT IT READS IS OF BULK AT MOST 1048576: true; the input reads as it did. -/
def netNoneUptoRow : OpenClaim := { program := "yteahlnoonmfjhaa", sum := "ef8b22121721ec358953592ab06b11a46ad364903a2326dfdaf6c6ad03fd9907", func := "jetty/jettylaw30.NetNone", spec := "netNone", unfollowed := true, recurses := true, plainKeys := false, apart := false, narrowed := true }
def NetNoneUptoSaid : Prop := netNoneUptoRow.holds Try.pinned (OpenSpec.upto netNoneSpec)

/-- 'jettylaw30.NetOnce', WHERE WHAT IT READS IS OF BULK AT MOST 1048576: true; the input reads as it did. -/
def netOnceUptoRow : OpenClaim := { program := "yteahlnoonmfjhaa", sum := "ef8b22121721ec358953592ab06b11a46ad364903a2326dfdaf6c6ad03fd9907", func := "jetty/jettylaw30.NetOnce", spec := "netOnce", unfollowed := true, recurses := true, plainKeys := false, apart := false, narrowed := true }
def NetOnceUptoSaid : Prop := netOnceUptoRow.holds Try.pinned (OpenSpec.upto netOnceSpec)

/-- 'jettylaw30.NetPlays', WHERE WHAT IT READS IS OF BULK AT MOST 1048576: true; the input reads as it did. -/
def netPlaysUptoRow : OpenClaim := { program := "yteahlnoonmfjhaa", sum := "ef8b22121721ec358953592ab06b11a46ad364903a2326dfdaf6c6ad03fd9907", func := "jetty/jettylaw30.NetPlays", spec := "netPlays", unfollowed := true, recurses := true, plainKeys := false, apart := false, narrowed := true }
def NetPlaysUptoSaid : Prop := netPlaysUptoRow.holds Try.pinned (OpenSpec.upto netPlaysSpec)

end Rows
end Go.Proofs.Yteahlnoonmfjhaa
