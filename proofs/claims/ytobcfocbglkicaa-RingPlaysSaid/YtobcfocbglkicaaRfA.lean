/- The document's disk (jettyref07): its states, how one lies in memory, and what ties it to a disk. -/
import Derived.Test.YtobcfocbglkicaaOb
set_option linter.unusedVariables false
set_option maxRecDepth 100000
namespace Go.Proofs.Ytobcfocbglkicaa
open Go.RowKit

abbrev RW := Int × List UInt8 × Bool
def rwC (p : RW) : List Value := .int .i64 p.1 :: (bvs p.2.1 ++ [.bool p.2.2])
def rwcs (l : List RW) : List Value := l.flatMap rwC
structure RF where
  n : Int
  L : List RW
  cut : Int
  keep : List Bool
  dead : Bool
structure RfP (w : World) (S : Nat → Prop) (g : Nat) (sv kv : Value) (R : RF) : Prop where
  hg : w.heap[g]? = some (.cells #[.int .i64 R.n, sv, .int .i64 R.cut, kv, .bool R.dead] 116 (0, 0))
  l : OwnR w 0 118 514 One sv R.L.length (rwcs R.L)
  kp : OwnR w 0 4 1 One kv R.keep.length (bcs R.keep)
  sg : S g
  sl : ∀ b, sv.ownBlock = some b → S b
  sk : ∀ b, kv.ownBlock = some b → S b
  ok : ∀ p ∈ R.L, p.2.1.length = 512
def RfAt (w : World) (S : Nat → Prop) (g : Nat) (R : RF) : Prop := ∃ sv kv, RfP w S g sv kv R
theorem RfP.mutw {w w' : World} {S T : Nat → Prop} {g : Nat} {sv kv : Value} {R : RF} (h : RfP w S g sv kv R) (k : Mut T w w') (hd : ∀ i, S i → ¬ T i) : RfP w' S g sv kv R :=
  { h with
    hg := (k.block g (Array.getElem?_eq_some_iff.1 h.hg).1 (hd _ h.sg)).trans h.hg
    l := h.l.mutO k fun b hb => hd _ (h.sl b hb)
    kp := h.kp.mutO k fun b hb => hd _ (h.sk b hb) }
theorem RfAt.mutw {w w' : World} {S T : Nat → Prop} {g : Nat} {R : RF} (h : RfAt w S g R) (k : Mut T w w') (hd : ∀ i, S i → ¬ T i) : RfAt w' S g R := by
  obtain ⟨sv, kv, h⟩ := h
  exact ⟨sv, kv, h.mutw k hd⟩
def rfOb (g : Nat) (R : RF) : Ob := ⟨fun w S => RfAt w S g R, fun h k hd => h.mutw k hd⟩

/-! Its steps. -/
def onR (l : List Wr) : List RW := l.map fun p => (p.1, p.2, true)
def wtR (l : List Wr) : List RW := l.map fun p => (p.1, p.2, false)
/-- Those that are kept: k of them that wait stood ahead. -/
def keptR (keep : List Bool) : Nat → List RW → List RW
  | _, [] => []
  | k, p :: l => if p.2.2 then (p.1, p.2.1, true) :: keptR keep k l else (if keep.getD k false then [(p.1, p.2.1, true)] else []) ++ keptR keep (k + 1) l
def RF.fails (R : RF) : RF × Bool := if R.cut = 0 then (R, false) else ({ R with cut := R.cut - 1 }, decide (R.cut - 1 = 0))
def RF.Fail (R : RF) (keep : List Bool) : RF × Int := if R.dead then (R, 51) else (⟨R.n, keptR keep 0 R.L, 0, [], true⟩, 0)
def RF.write (R : RF) (z : Int) (b : List UInt8) : RF × Int :=
  if R.dead then (R, 51) else if 0 ≤ z ∧ z < R.n then
    let R1 := ({ R with L := R.L ++ [(z, b, false)] } : RF).fails
    if R1.2 then ((R1.1.Fail R1.1.keep).1, 51) else (R1.1, 0)
  else (R, 1)
def RF.flush (R : RF) : RF × Int :=
  if R.dead then (R, 51) else if R.fails.2 then ((R.fails.1.Fail R.fails.1.keep).1, 51) else ({ R.fails.1 with L := R.fails.1.L.map fun p => (p.1, p.2.1, true) }, 0)
def RF.say (R : RF) (n : Int) (keep : List Bool) : RF × Int := if R.dead then (R, 51) else if 0 ≤ n then ({ R with cut := n, keep := keep }, 0) else (R, 1)
def lastR (L : List RW) (z : Int) : Option (List UInt8) := (L.reverse.find? fun p => decide (p.1 = z)).map (·.2.1)
def RF.read (R : RF) (z : Int) : List UInt8 × Int := if R.dead then (zB, 51) else if 0 ≤ z ∧ z < R.n then ((lastR R.L z).getD zB, 0) else (zB, 1)
/-- A disk and the document's tell the same. -/
structure Tie (D : DK) (R : RF) : Prop where
  n : R.n = D.n
  L : R.L = onR D.on ++ wtR D.wt
  dead : R.dead = D.dead
  cut : R.cut = D.cut
  keep : 0 < D.cut → R.keep = D.keep
  wt0 : D.dead = true → D.wt = []
theorem keptR_on (keep : List Bool) (k : Nat) : ∀ (l : List Wr) (m : List RW), keptR keep k (onR l ++ m) = onR l ++ keptR keep k m
  | [], _ => rfl
  | p :: l, m => by
    show keptR keep k ((p.1, p.2, true) :: (onR l ++ m)) = (p.1, p.2, true) :: (onR l ++ keptR keep k m)
    rw [← keptR_on keep k l m]
    rfl
theorem lastR_tie (D : DK) (z : Int) : lastR (onR D.on ++ wtR D.wt) z = lastB (D.on ++ D.wt) z := by
  unfold lastR lastB onR wtR
  rw [List.reverse_append, List.find?_append, List.reverse_append, List.find?_append, ← List.map_reverse, ← List.map_reverse, List.find?_map, List.find?_map]
  cases h1 : List.find? (fun p => decide (p.1 = z)) D.wt.reverse <;> cases h2 : List.find? (fun p => decide (p.1 = z)) D.on.reverse <;> simp [Function.comp_def, h1, h2]
end Go.Proofs.Ytobcfocbglkicaa
