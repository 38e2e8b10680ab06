/- Results: Tell (plain), any letter. -/
import Derived.Test.YteahlnoonmfjhaaRsC
set_option linter.unusedVariables false
set_option maxRecDepth 100000
namespace Go.Proofs.Yteahlnoonmfjhaa
open Go.RowKit

def lettersT : List UInt8 := [72, 65, 120, 78, 102, 117, 101, 69, 118]
theorem putResult_any {W0 : World} {B gw ga : Nat} {b : List UInt8} {x : RsT} {rv : Value} {c : UInt8} (hc : c ∈ lettersT) (w : World) (h : Wr W0 w B gw ga 41 b (rsC x rv).toArray) (hk : x.Okw) (hb : b.length ≤ 50000) (hB : ga < B) (hr : EnR w rv x.ents) (hro : 0 < x.ents.length → OffB rv gw ∧ OffB rv ga) :
    Calls Try.prog 83 #[.pointer (some ⟨gw, 0, none⟩), .int .u8 c.toNat, .pointer (some ⟨ga, 0, none⟩)] w (PutR W0 B gw ga c x rv b) := by
  simp only [lettersT, List.mem_cons, List.not_mem_nil, or_false] at hc
  rcases hc with rfl | rfl | rfl | rfl | rfl | rfl | rfl | rfl | rfl
  · exact putResult_72 w h hk (by omega)
  · exact putResult_65 w h hk hb
  · exact putResult_120 w h hk (by omega)
  · exact putResult_78 w h hk (by omega)
  · exact putResult_102 w h hk (by omega)
  · exact putResult_117 w h hk (by omega)
  · exact putResult_101 w h hk (by omega)
  · exact putResult_69 w h hk hb hB hr hro
  · exact putResult_118 w h hk (by omega)
def putAllR : List UInt8 → RsT → List UInt8 → Option (List UInt8 × RsT)
  | [], x, b => some (b, x)
  | c :: l, x, b => match putR c x with
    | none => none
    | some y => putAllR l (clrR c x) (b ++ y)
/-- The words of a result, and the error. -/
def aT (p : Int) (x : RsT) : List UInt8 × Int :=
  match toldL p with
  | none => ([], 62)
  | some l => if x.e < 0 ∨ 63 < x.e then ([], 4) else match putAllR (if x.e = 0 then l else []) { x with e := 0 } (beN x.e 4) with
    | none => ([], 4)
    | some r => if r.2 = rs0 then (r.1, 0) else ([], 4)
theorem toldL_mem {p : Int} {l : List UInt8} (h : toldL p = some l) : (∀ c ∈ l, c ∈ lettersT) ∧ l.length ≤ 3 := by
  have key : ∀ i : Nat, i < 19 → ∀ l, toldL (i : Int) = some l → (∀ c ∈ l, c ∈ lettersT) ∧ l.length ≤ 3 := by
    intro i hi l hl
    have : i = 0 ∨ i = 1 ∨ i = 2 ∨ i = 3 ∨ i = 4 ∨ i = 5 ∨ i = 6 ∨ i = 7 ∨ i = 8 ∨ i = 9 ∨ i = 10 ∨ i = 11 ∨ i = 12 ∨ i = 13 ∨ i = 14 ∨ i = 15 ∨ i = 16 ∨ i = 17 ∨ i = 18 := by omega
    rcases this with rfl | rfl | rfl | rfl | rfl | rfl | rfl | rfl | rfl | rfl | rfl | rfl | rfl | rfl | rfl | rfl | rfl | rfl | rfl <;> (cases hl; decide)
  by_cases hp : 0 ≤ p ∧ p < 19
  · obtain ⟨i, rfl⟩ : ∃ i : Nat, p = i := ⟨p.toNat, by omega⟩
    exact key i (by omega) l h
  · exfalso
    have : toldL p = none := by
      unfold toldL
      repeat (rw [if_neg (by omega)])
    rw [this] at h
    cases h
end Go.Proofs.Yteahlnoonmfjhaa
