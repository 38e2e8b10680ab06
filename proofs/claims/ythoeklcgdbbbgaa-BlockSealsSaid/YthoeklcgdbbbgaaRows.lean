/-
  No cell of these rows narrows 'for every input' (looked for: loops, veiled, ifaces, maps, wideKeys, modest, calm, conditions, laid).
  DERIVED. THE GIVEN ROWS OF THIS SEAT. 7 by the template 'for every input the law returns true; each argument reads behind the call as it read before'; 0 by the template 'total and deterministic' (their statements: YthoeklcgdbbbgaaTotals.lean).
  GIVEN WITH THE SEED: the statements are not yours to turn. If you find one false, say at which input.
  Laid BY PROGRAM, IN A SANDBOX (cutbox-rows.mjs): the forced cells as the released guide's own fill.sh prints them over the translation 95ffacb7e932f52d… (all of the seat's roots in one cut). By AI agents, Wed Nov 11 2026. No macro, syntax, notation, axiom, sorry.
-/
import Derived.Test.YthoeklcgdbbbgaaChecked
import GoSem.Claim
import GoSem.ClaimJoined
import GoSem.ClaimMapViews
import Derived.JoinedTies
import Derived.KernelRfl
namespace Go.Proofs.Ythoeklcgdbbbgaa
/- THE CELL 'sum', in the pinned program and in every row, IS THE sha256 OF THE DUMP (.gsa) THAT YthoeklcgdbbbgaaProg.lean LOADS. Nothing in Lean hashes anything: it is a label: what it is worth is what the hold of that sum in a sandbox is worth. -/
noncomputable def Try.pinned : Pinned := { name := "ythoeklcgdbbbgaa", sum := "95ffacb7e932f52de857af17c6dee1aadb8b7187c3bb2983bc2df48b82043607", checked := Try.checked }
namespace Rows
def none {H : Type} : Left H := { results := [], args := [] }

/-- 'jettylaw08.BlockSeals': WHATEVER THE INPUT: true; the input reads as it did. -/
def blockSealsSpec : ChangeSpec := { name := "blockSeals", fn := fun _ => fun
  | [d1, d2, d3, d4, d5, d6] => { results := [.lit (.bool true)], args := [d1, d2, d3, d4, d5, d6] }
  | _ => none }
def blockSealsRow : OpenClaim := { program := "ythoeklcgdbbbgaa", sum := "95ffacb7e932f52de857af17c6dee1aadb8b7187c3bb2983bc2df48b82043607", func := "jetty/jettylaw08.BlockSeals", spec := "blockSeals", apart := false }
def BlockSealsSaid : Prop := blockSealsRow.holds Try.pinned (OpenSpec.ofChange blockSealsSpec)

/-- ITS FALSE NEIGHBOUR: 'it returns false'. Refute it at one input. -/
def blockSealsWrong : ChangeSpec := { name := "blockSeals", fn := fun _ => fun
  | [d1, d2, d3, d4, d5, d6] => { results := [.lit (.bool false)], args := [d1, d2, d3, d4, d5, d6] }
  | _ => none }
def BlockSealsWrongFalsely : Prop := blockSealsRow.holds Try.pinned (OpenSpec.ofChange blockSealsWrong)

/-- 'jettylaw08.BlockOther': WHATEVER THE INPUT: true; the input reads as it did. -/
def blockOtherSpec : ChangeSpec := { name := "blockOther", fn := fun _ => fun
  | [d1, d2, d3, d4, d5] => { results := [.lit (.bool true)], args := [d1, d2, d3, d4, d5] }
  | _ => none }
def blockOtherRow : OpenClaim := { program := "ythoeklcgdbbbgaa", sum := "95ffacb7e932f52de857af17c6dee1aadb8b7187c3bb2983bc2df48b82043607", func := "jetty/jettylaw08.BlockOther", spec := "blockOther", apart := false }
def BlockOtherSaid : Prop := blockOtherRow.holds Try.pinned (OpenSpec.ofChange blockOtherSpec)

/-- ITS FALSE NEIGHBOUR: 'it returns false'. Refute it at one input. -/
def blockOtherWrong : ChangeSpec := { name := "blockOther", fn := fun _ => fun
  | [d1, d2, d3, d4, d5] => { results := [.lit (.bool false)], args := [d1, d2, d3, d4, d5] }
  | _ => none }
def BlockOtherWrongFalsely : Prop := blockOtherRow.holds Try.pinned (OpenSpec.ofChange blockOtherWrong)

/-- 'jettylaw08.BlockLays': WHATEVER THE INPUT: true; the input reads as it did. -/
def blockLaysSpec : ChangeSpec := { name := "blockLays", fn := fun _ => fun
  | [d1, d2, d3] => { results := [.lit (.bool true)], args := [d1, d2, d3] }
  | _ => none }
def blockLaysRow : OpenClaim := { program := "ythoeklcgdbbbgaa", sum := "95ffacb7e932f52de857af17c6dee1aadb8b7187c3bb2983bc2df48b82043607", func := "jetty/jettylaw08.BlockLays", spec := "blockLays", apart := false }
def BlockLaysSaid : Prop := blockLaysRow.holds Try.pinned (OpenSpec.ofChange blockLaysSpec)

/-- ITS FALSE NEIGHBOUR: 'it returns false'. Refute it at one input. -/
def blockLaysWrong : ChangeSpec := { name := "blockLays", fn := fun _ => fun
  | [d1, d2, d3] => { results := [.lit (.bool false)], args := [d1, d2, d3] }
  | _ => none }
def BlockLaysWrongFalsely : Prop := blockLaysRow.holds Try.pinned (OpenSpec.ofChange blockLaysWrong)

/-- 'jettylaw08.BlockApart': WHATEVER THE INPUT: true; the input reads as it did. -/
def blockApartSpec : ChangeSpec := { name := "blockApart", fn := fun _ => fun
  | [d1, d2, d3, d4, d5, d6, d7, d8] => { results := [.lit (.bool true)], args := [d1, d2, d3, d4, d5, d6, d7, d8] }
  | _ => none }
def blockApartRow : OpenClaim := { program := "ythoeklcgdbbbgaa", sum := "95ffacb7e932f52de857af17c6dee1aadb8b7187c3bb2983bc2df48b82043607", func := "jetty/jettylaw08.BlockApart", spec := "blockApart", apart := false }
def BlockApartSaid : Prop := blockApartRow.holds Try.pinned (OpenSpec.ofChange blockApartSpec)

/-- ITS FALSE NEIGHBOUR: 'it returns false'. Refute it at one input. -/
def blockApartWrong : ChangeSpec := { name := "blockApart", fn := fun _ => fun
  | [d1, d2, d3, d4, d5, d6, d7, d8] => { results := [.lit (.bool false)], args := [d1, d2, d3, d4, d5, d6, d7, d8] }
  | _ => none }
def BlockApartWrongFalsely : Prop := blockApartRow.holds Try.pinned (OpenSpec.ofChange blockApartWrong)

/-- 'jettylaw08.BlockPointers': WHATEVER THE INPUT: true; the input reads as it did. -/
def blockPointersSpec : ChangeSpec := { name := "blockPointers", fn := fun _ => fun
  | [d1, d2] => { results := [.lit (.bool true)], args := [d1, d2] }
  | _ => none }
def blockPointersRow : OpenClaim := { program := "ythoeklcgdbbbgaa", sum := "95ffacb7e932f52de857af17c6dee1aadb8b7187c3bb2983bc2df48b82043607", func := "jetty/jettylaw08.BlockPointers", spec := "blockPointers", apart := false }
def BlockPointersSaid : Prop := blockPointersRow.holds Try.pinned (OpenSpec.ofChange blockPointersSpec)

/-- ITS FALSE NEIGHBOUR: 'it returns false'. Refute it at one input. -/
def blockPointersWrong : ChangeSpec := { name := "blockPointers", fn := fun _ => fun
  | [d1, d2] => { results := [.lit (.bool false)], args := [d1, d2] }
  | _ => none }
def BlockPointersWrongFalsely : Prop := blockPointersRow.holds Try.pinned (OpenSpec.ofChange blockPointersWrong)

/-- 'jettylaw08.BlockNames': WHATEVER THE INPUT: true; the input reads as it did. -/
def blockNamesSpec : ChangeSpec := { name := "blockNames", fn := fun _ => fun
  | [] => { results := [.lit (.bool true)], args := [] }
  | _ => none }
def blockNamesRow : OpenClaim := { program := "ythoeklcgdbbbgaa", sum := "95ffacb7e932f52de857af17c6dee1aadb8b7187c3bb2983bc2df48b82043607", func := "jetty/jettylaw08.BlockNames", spec := "blockNames", apart := false }
def BlockNamesSaid : Prop := blockNamesRow.holds Try.pinned (OpenSpec.ofChange blockNamesSpec)

/-- ITS FALSE NEIGHBOUR: 'it returns false'. Refute it at one input. -/
def blockNamesWrong : ChangeSpec := { name := "blockNames", fn := fun _ => fun
  | [] => { results := [.lit (.bool false)], args := [] }
  | _ => none }
def BlockNamesWrongFalsely : Prop := blockNamesRow.holds Try.pinned (OpenSpec.ofChange blockNamesWrong)

/-- 'jettylaw08.BlockBack': WHATEVER THE INPUT: true; the input reads as it did. -/
def blockBackSpec : ChangeSpec := { name := "blockBack", fn := fun _ => fun
  | [d1, d2, d3, d4, d5] => { results := [.lit (.bool true)], args := [d1, d2, d3, d4, d5] }
  | _ => none }
def blockBackRow : OpenClaim := { program := "ythoeklcgdbbbgaa", sum := "95ffacb7e932f52de857af17c6dee1aadb8b7187c3bb2983bc2df48b82043607", func := "jetty/jettylaw08.BlockBack", spec := "blockBack", apart := false }
def BlockBackSaid : Prop := blockBackRow.holds Try.pinned (OpenSpec.ofChange blockBackSpec)

/-- ITS FALSE NEIGHBOUR: 'it returns false'. Refute it at one input. -/
def blockBackWrong : ChangeSpec := { name := "blockBack", fn := fun _ => fun
  | [d1, d2, d3, d4, d5] => { results := [.lit (.bool false)], args := [d1, d2, d3, d4, d5] }
  | _ => none }
def BlockBackWrongFalsely : Prop := blockBackRow.holds Try.pinned (OpenSpec.ofChange blockBackWrong)

/- THE SECOND FORM. 'bulk': how many values and letters a reading holds, each counted each time it is reached (what is shared counts as often as it is met; a slice's spare places count too). A statement '..UptoSaid' is the law's where the arguments, and the package variables that the reading takes, are together of bulk at most 1048576: NARROWER than '..Said'. Prove '..Said' where nothing that the law and all that it calls make is longer than what came in: it says more and counts as full. Else prove '..UptoSaid'. A law counts once. -/
mutual
def uptoBulk {H : Type} : DataW H → Nat
  | .lit (.string bytes) => bytes.length + 1
  | .lit _ => 1
  | .nil => 1
  | .ptr d => uptoBulk d + 1
  | .slice elems spare => uptoBulkAll elems + uptoBulkAll spare + 1
  | .agg parts => uptoBulkAll parts + 1
  | .iface _ d => uptoBulk d + 1
  | .map entries => uptoBulkEntries entries + 1
  | .held _ => 1
def uptoBulkAll {H : Type} : List (DataW H) → Nat
  | [] => 0
  | d :: r => uptoBulk d + uptoBulkAll r
def uptoBulkEntries {H : Type} : List (Lit × DataW H) → Nat
  | [] => 0
  | x :: r => uptoBulkEntry x + uptoBulkEntries r
def uptoBulkEntry {H : Type} : Lit × DataW H → Nat
  | (.string bytes, d) => bytes.length + uptoBulk d + 1
  | (_, d) => uptoBulk d + 1
 end
def uptoSmall : (H : Type) → List (DataW H) → Bool := fun _ ds => decide (uptoBulkAll ds ≤ 1048576)
def OpenSpec.upto (s : _root_.Go.ChangeSpec) : _root_.Go.OpenSpec := { _root_.Go.OpenSpec.ofChange s with cond := some uptoSmall }

/-- 'jettylaw08.BlockSeals', WHERE WHAT IT READS IS OF BULK AT MOST 1048576: true; the input reads as it did. -/
def blockSealsUptoRow : OpenClaim := { program := "ythoeklcgdbbbgaa", sum := "95ffacb7e932f52de857af17c6dee1aadb8b7187c3bb2983bc2df48b82043607", func := "jetty/jettylaw08.BlockSeals", spec := "blockSeals", apart := false, narrowed := true }
def BlockSealsUptoSaid : Prop := blockSealsUptoRow.holds Try.pinned (OpenSpec.upto blockSealsSpec)

/-- 'jettylaw08.BlockOther', WHERE WHAT IT READS IS OF BULK AT MOST 1048576: true; the input reads as it did. -/
def blockOtherUptoRow : OpenClaim := { program := "ythoeklcgdbbbgaa", sum := "95ffacb7e932f52de857af17c6dee1aadb8b7187c3bb2983bc2df48b82043607", func := "jetty/jettylaw08.BlockOther", spec := "blockOther", apart := false, narrowed := true }
def BlockOtherUptoSaid : Prop := blockOtherUptoRow.holds Try.pinned (OpenSpec.upto blockOtherSpec)

/-- 'jettylaw08.BlockLays', WHERE WHAT IT READS IS OF BULK AT MOST 1048576: true; the input reads as it did. -/
def blockLaysUptoRow : OpenClaim := { program := "ythoeklcgdbbbgaa", sum := "95ffacb7e932f52de857af17c6dee1aadb8b7187c3bb2983bc2df48b82043607", func := "jetty/jettylaw08.BlockLays", spec := "blockLays", apart := false, narrowed := true }
def BlockLaysUptoSaid : Prop := blockLaysUptoRow.holds Try.pinned (OpenSpec.upto blockLaysSpec)

/-- 'jettylaw08.BlockApart', WHERE WHAT IT READS IS OF BULK AT MOST 1048576: true; the input reads as it did. -/
def blockApartUptoRow : OpenClaim := { program := "ythoeklcgdbbbgaa", sum := "95ffacb7e932f52de857af17c6dee1aadb8b7187c3bb2983bc2df48b82043607", func := "jetty/jettylaw08.BlockApart", spec := "blockApart", apart := false, narrowed := true }
def BlockApartUptoSaid : Prop := blockApartUptoRow.holds Try.pinned (OpenSpec.upto blockApartSpec)

/-- 'jettylaw08.BlockPointers', WHERE WHAT IT READS IS OF BULK AT MOST 1048576: true; the input reads as it did. -/
def blockPointersUptoRow : OpenClaim := { program := "ythoeklcgdbbbgaa", sum := "95ffacb7e932f52de857af17c6dee1aadb8b7187c3bb2983bc2df48b82043607", func := "jetty/jettylaw08.BlockPointers", spec := "blockPointers", apart := false, narrowed := true }
def BlockPointersUptoSaid : Prop := blockPointersUptoRow.holds Try.pinned (OpenSpec.upto blockPointersSpec)

/-- 'jettylaw08.BlockNames', WHERE WHAT IT READS IS OF BULK AT MOST 1048576: true; the input reads as it did. -/
def blockNamesUptoRow : OpenClaim := { program := "ythoeklcgdbbbgaa", sum := "95ffacb7e932f52de857af17c6dee1aadb8b7187c3bb2983bc2df48b82043607", func := "jetty/jettylaw08.BlockNames", spec := "blockNames", apart := false, narrowed := true }
def BlockNamesUptoSaid : Prop := blockNamesUptoRow.holds Try.pinned (OpenSpec.upto blockNamesSpec)

/-- 'jettylaw08.BlockBack', WHERE WHAT IT READS IS OF BULK AT MOST 1048576: true; the input reads as it did. -/
def blockBackUptoRow : OpenClaim := { program := "ythoeklcgdbbbgaa", sum := "95ffacb7e932f52de857af17c6dee1aadb8b7187c3bb2983bc2df48b82043607", func := "jetty/jettylaw08.BlockBack", spec := "blockBack", apart := false, narrowed := true }
def BlockBackUptoSaid : Prop := blockBackUptoRow.holds Try.pinned (OpenSpec.upto blockBackSpec)

end Rows
end Go.Proofs.Ythoeklcgdbbbgaa
