/- Arguments: the plain model; how a writer and what it writes lie in memory. -/
import Derived.Test.YteahlnoonmfjhaaMx
import Derived.Test.YteahlnoonmfjhaaMy
import Derived.Test.YteahlnoonmfjhaaGen
set_option linter.unusedVariables false
set_option maxRecDepth 100000
namespace Go.Proofs.Yteahlnoonmfjhaa
open Go.RowKit

theorem Ext.blk {w w' : World} (k : Ext w w') {b : Nat} {o : Obj} (h : w.heap[b]? = some o) : w'.heap[b]? = some o := (k.block b (heap_lt h)).trans h
structure AgT where
  h : Int × Int × Int
  t : Int × Int × Int
  name : List UInt8
  other : List UInt8
  text : List UInt8
  at_ : Int
  n : Int
  mode : Int
  size : Int
  stable : Int
  guard : Int
  verf : Int
deriving DecidableEq
def ag0 : AgT := ⟨(0, 0, 0), (0, 0, 0), [], [], [], 0, 0, 0, 0, 0, 0, 0⟩
def agC (a : AgT) : List Value := [.int .i64 a.h.1, .int .i64 a.h.2.1, .int .i64 a.h.2.2, .int .i64 a.t.1, .int .i64 a.t.2.1, .int .i64 a.t.2.2, .string (str a.name), .string (str a.other), .string (str a.text), .int .i64 a.at_, .int .i64 a.n, .int .i64 a.mode, .int .i64 a.size, .int .i64 a.stable, .int .i64 a.guard, .int .u64 a.verf]
def agV (a : AgT) : Value := .agg (agC a).toArray
def I64 (n : Int) : Prop := -9223372036854775808 ≤ n ∧ n ≤ 9223372036854775807
structure AgT.Ok (a : AgT) : Prop where
  h : I64 a.h.1 ∧ I64 a.h.2.1 ∧ I64 a.h.2.2
  t : I64 a.t.1 ∧ I64 a.t.2.1 ∧ I64 a.t.2.2
  name : a.name.length ≤ 20000
  other : a.other.length ≤ 20000
  text : a.text.length ≤ 20000
  at_ : I64 a.at_
  n : I64 a.n
  mode : I64 a.mode
  size : I64 a.size
  stable : I64 a.stable
  guard : I64 a.guard
  verf : 0 ≤ a.verf ∧ a.verf ≤ 18446744073709551615
def textL (s : List UInt8) : List UInt8 := beN s.length 4 ++ fixL s
def intL (n : Int) : List UInt8 := beL (n % 18446744073709551616)
/-- The letters that each procedure asks for. -/
def askedL (p : Int) : Option (List UInt8) := if p = 18 then some [72, 110] else if p = 17 then some [72, 110] else if p = 16 then some [72] else if p = 15 then some [72] else if p = 14 then some [72, 112, 78, 118] else if p = 13 then some [72, 84, 110] else if p = 12 then some [72, 110, 84, 111] else if p = 11 then some [72, 110] else if p = 10 then some [72, 110] else if p = 9 then some [72, 110, 120] else if p = 8 then some [72, 110, 109] else if p = 7 then some [72, 110, 109, 103] else if p = 6 then some [72, 112, 98, 120] else if p = 5 then some [72, 112, 78] else if p = 4 then some [72] else if p = 3 then some [72, 110] else if p = 2 then some [72, 109, 115, 103] else if p = 1 then some [72] else if p = 0 then some [] else none
def hB (x : Int × Int × Int) : Option (List UInt8) := if hmayB x.1 x.2.1 x.2.2 = true then some (hbytes x.1 x.2.1 x.2.2) else none
def tB (s : List UInt8) (m : Nat) : Option (List UInt8) := if m < s.length then none else some (textL s)
/-- The words of a letter's field; none: it may not be. -/
def putA (c : UInt8) (a : AgT) : Option (List UInt8) :=
  if c = 72 then hB a.h else if c = 84 then hB a.t else if c = 110 then tB a.name 255 else if c = 111 then tB a.other 255 else if c = 120 then tB a.text 2048
  else if c = 112 then some (intL a.at_) else if c = 78 then some (intL a.n) else if c = 109 then some (intL a.mode) else if c = 115 then some (intL a.size) else if c = 98 then some (intL a.stable)
  else if c = 103 then some (intL a.guard) else if c = 118 then some (beL a.verf) else some []
/-- Its field is zero then. -/
def clrA (c : UInt8) (a : AgT) : AgT :=
  if c = 72 then { a with h := (0, 0, 0) } else if c = 84 then { a with t := (0, 0, 0) } else if c = 110 then { a with name := [] } else if c = 111 then { a with other := [] } else if c = 120 then { a with text := [] }
  else if c = 112 then { a with at_ := 0 } else if c = 78 then { a with n := 0 } else if c = 109 then { a with mode := 0 } else if c = 115 then { a with size := 0 } else if c = 98 then { a with stable := 0 }
  else if c = 103 then { a with guard := 0 } else if c = 118 then { a with verf := 0 } else a
def putAll : List UInt8 → AgT → List UInt8 → Option (List UInt8 × AgT)
  | [], a, b => some (b, a)
  | c :: l, a, b => match putA c a with
    | none => none
    | some x => putAll l (clrA c a) (b ++ x)
/-- The words of arguments, and the error. -/
def aW (p : Int) (a : AgT) : List UInt8 × Int :=
  match askedL p with
  | none => ([], 62)
  | some l => match putAll l a [] with
    | none => ([], 4)
    | some x => if x.2 = ag0 then (x.1, 0) else ([], 4)

/-- No slice of this block. -/
def OffB (v : Value) (g : Nat) : Prop := ∀ g' o n c, v = .slice (some ⟨g', o, none⟩) n c → g' ≠ g
/-- A writer in block gw, with these bytes, not bad; what it writes in block ga. Both are of worlds since W0; the bytes' row lies behind B. -/
structure WrQ (W0 w : World) (B gw ga : Nat) (Ta : TypeId) (q : Bool) (b : List UInt8) (row : Array Value) : Prop where
  hw : ∃ v, w.heap[gw]? = some (.cells #[v, .bool q] 134 (0, 0)) ∧ OwnZ w B 5 v b ∧ OffB v gw ∧ OffB v ga
  ha : w.heap[ga]? = some (.cells row Ta (0, 0))
  ne : gw ≠ ga
  mu : Mut (fun i => i = gw ∨ i = ga) W0 w
  lB : B ≤ w.heap.size
/-- The same, not bad so far. -/
abbrev Wr (W0 w : World) (B gw ga : Nat) (Ta : TypeId) (b : List UInt8) (row : Array Value) : Prop := WrQ W0 w B gw ga Ta false b row
theorem OwnZ.off {w : World} {B g : Nat} {T : TypeId} {v : Value} {l : List UInt8} (h : OwnZ w B T v l) (hg : g < B) : OffB v g := fun g' o n c e => by
  rcases h with ⟨h, -⟩ | ⟨c', g2, junk, h, hB, hh, hc⟩
  · rw [h] at e; cases e
  · rw [h] at e
    cases e
    omega
theorem OwnZ.setOff {w : World} {B g : Nat} {T : TypeId} {v : Value} {l : List UInt8} (h : OwnZ w B T v l) (hg : OffB v g) (row : Array Value) : OwnZ (w.setRow g row) B T v l := by
  rcases h with h | ⟨c, g', junk, rfl, hB, hh, hc⟩
  · exact .inl h
  · exact .inr ⟨c, g', junk, rfl, hB, (setRow_other w g g' row (hg _ _ _ _ rfl)).trans hh, hc⟩
theorem offNil {g n c : Nat} : OffB (.slice none n c) g := fun _ _ _ _ e => by cases e
section
variable {W0 w w' : World} {B gw ga : Nat} {Ta : TypeId} {q : Bool} {b b' : List UInt8} {row : Array Value}
theorem WrQ.lts (h : WrQ W0 w B gw ga Ta q b row) : gw < w.heap.size ∧ ga < w.heap.size := by
  obtain ⟨v, h1, -⟩ := h.hw
  exact ⟨heap_lt h1, heap_lt h.ha⟩
theorem WrQ.ext (h : WrQ W0 w B gw ga Ta q b row) (k : Ext w w') : WrQ W0 w' B gw ga Ta q b row := by
  obtain ⟨v, h1, h2, h3⟩ := h.hw
  exact { h with hw := ⟨v, Ext.blk k h1, h2.ext k, h3⟩, ha := Ext.blk k h.ha, mu := h.mu.trans (Mut.of_ext k), lB := Nat.le_trans h.lB k.size }
/-- The row of the bytes is put. -/
theorem WrQ.put (h : WrQ W0 w B gw ga Ta q b row) {v : Value} (ho : OwnZ w B 5 v b') (o1 : OffB v gw ∧ OffB v ga) : WrQ W0 (w.setRow gw #[v, .bool q]) B gw ga Ta q b' row := by
  obtain ⟨v0, h1, h2, -⟩ := h.hw
  exact { h with hw := ⟨v, setRow_heap _ _ _ _ _ _ h1, ho.setOff o1.1 _, o1⟩, ha := (setRow_other _ _ _ _ h.ne.symm).trans h.ha, mu := h.mu.trans (mut_setRow (S := fun i => i = gw ∨ i = ga) (.inl rfl) _), lB := by simpa [World.setRow] using h.lB }
theorem WrQ.clr (h : WrQ W0 w B gw ga Ta q b row) (row' : Array Value) : WrQ W0 (w.setRow ga row') B gw ga Ta q b row' := by
  obtain ⟨v0, h1, h2, h3⟩ := h.hw
  exact { h with hw := ⟨v0, (setRow_other _ _ _ _ h.ne).trans h1, h2.setOff h3.2 _, h3⟩, ha := setRow_heap _ _ _ _ _ _ h.ha, mu := h.mu.trans (mut_setRow (S := fun i => i = gw ∨ i = ga) (.inr rfl) _), lB := by simpa [World.setRow] using h.lB }
/-- It is bad. -/
def WrBad (W0 w : World) (gw ga : Nat) : Prop := (∃ v, w.heap[gw]? = some (.cells #[v, .bool true] 134 (0, 0))) ∧ Mut (fun i => i = gw ∨ i = ga) W0 w
theorem WrQ.bad (h : WrQ W0 w B gw ga Ta true b row) : WrBad W0 w gw ga := by
  obtain ⟨v0, h1, h2⟩ := h.hw
  exact ⟨⟨v0, h1⟩, h.mu⟩
/-- It is made bad; its bytes stay. -/
theorem WrQ.spoilQ (h : WrQ W0 w B gw ga Ta q b row) {v : Value} (hv : w.heap[gw]? = some (.cells #[v, .bool q] 134 (0, 0))) : WrQ W0 (w.setRow gw #[v, .bool true]) B gw ga Ta true b row := by
  obtain ⟨v0, h1, h2, h3⟩ := h.hw
  rw [h1] at hv
  have e : v0 = v := by simpa using hv
  subst e
  exact { h with hw := ⟨v0, setRow_heap _ _ _ _ _ _ h1, h2.setOff h3.1 _, h3⟩, ha := (setRow_other _ _ _ _ h.ne.symm).trans h.ha, mu := h.mu.trans (mut_setRow (S := fun i => i = gw ∨ i = ga) (.inl rfl) _), lB := by simpa [World.setRow] using h.lB }
theorem WrQ.spoil (h : WrQ W0 w B gw ga Ta q b row) {v : Value} : WrBad W0 (w.setRow gw #[v, .bool true]) gw ga := by
  obtain ⟨v0, h1, h2⟩ := h.hw
  exact ⟨⟨v, setRow_heap _ _ _ _ _ _ h1⟩, h.mu.trans (mut_setRow (S := fun i => i = gw ∨ i = ga) (.inl rfl) _)⟩
end
end Go.Proofs.Yteahlnoonmfjhaa
