/- Results: the writer's attr. -/
import Derived.Test.YteahlnoonmfjhaaGreatAgK
set_option linter.unusedVariables false
set_option maxRecDepth 100000
namespace Go.Proofs.YteahlnoonmfjhaaGreat
open Go.RowKit

def kindB (n : Int) : Bool := decide (n = 1 ∨ n = 2 ∨ n = 3)
theorem isKind_any (n : Int) (w : World) : Calls Tryz.prog 118 #[.int .u32 n] w fun e w' => e = .returned (.bool (kindB n)) ∧ Below w.heap.size w w' := by
  unfold kindB
  by_cases h1 : n = 1
  · subst h1
    go_enter Tryz.func118, Tryz.ntmps118
    go_wp2
    go_ret
    exact ⟨rfl, by (repeat' (first | (with_reducible assumption) | (with_reducible exact Below.refl _ _) | (with_reducible refine below_sc ?_ ?_) | ((with_reducible show (_ : Nat) ≤ _); omega) | refine Below.setCell ?_ (by first | omega | (simp; done) | (simp; omega)) _ | refine Below.alloc ?_ (by first | omega | (simp; done) | (simp; omega)) _ | refine Below.drew ?_ | refine below_drewN ?_ _ | refine Below.trans ?_ (Below.mono (by assumption) (by first | omega | (simp; done) | (simp; omega)))))⟩
  by_cases h2 : n = 2
  · subst h2
    go_enter Tryz.func118, Tryz.ntmps118
    go_wp2
    go_ret
    exact ⟨rfl, by (repeat' (first | (with_reducible assumption) | (with_reducible exact Below.refl _ _) | (with_reducible refine below_sc ?_ ?_) | ((with_reducible show (_ : Nat) ≤ _); omega) | refine Below.setCell ?_ (by first | omega | (simp; done) | (simp; omega)) _ | refine Below.alloc ?_ (by first | omega | (simp; done) | (simp; omega)) _ | refine Below.drew ?_ | refine below_drewN ?_ _ | refine Below.trans ?_ (Below.mono (by assumption) (by first | omega | (simp; done) | (simp; omega)))))⟩
  by_cases h3 : n = 3
  · subst h3
    go_enter Tryz.func118, Tryz.ntmps118
    go_wp2
    go_ret
    exact ⟨rfl, by (repeat' (first | (with_reducible assumption) | (with_reducible exact Below.refl _ _) | (with_reducible refine below_sc ?_ ?_) | ((with_reducible show (_ : Nat) ≤ _); omega) | refine Below.setCell ?_ (by first | omega | (simp; done) | (simp; omega)) _ | refine Below.alloc ?_ (by first | omega | (simp; done) | (simp; omega)) _ | refine Below.drew ?_ | refine below_drewN ?_ _ | refine Below.trans ?_ (Below.mono (by assumption) (by first | omega | (simp; done) | (simp; omega)))))⟩
  · have e : decide (n = 1 ∨ n = 2 ∨ n = 3) = false := decide_eq_false (by omega)
    rw [e]
    clear e
    go_enter Tryz.func118, Tryz.ntmps118
    go_wp2
    go_ret
    exact ⟨by simp [h1, h2, h3], by (repeat' (first | (with_reducible assumption) | (with_reducible exact Below.refl _ _) | (with_reducible refine below_sc ?_ ?_) | ((with_reducible show (_ : Nat) ≤ _); omega) | refine Below.setCell ?_ (by first | omega | (simp; done) | (simp; omega)) _ | refine Below.alloc ?_ (by first | omega | (simp; done) | (simp; omega)) _ | refine Below.drew ?_ | refine below_drewN ?_ _ | refine Below.trans ?_ (Below.mono (by assumption) (by first | omega | (simp; done) | (simp; omega)))))⟩
/-- The pointers to an Attr's seven numbers. -/
def ptrs (g o : Nat) : Array Value := #[.pointer (some ⟨g, o + 1, none⟩), .pointer (some ⟨g, o + 2, none⟩), .pointer (some ⟨g, o + 3, none⟩), .pointer (some ⟨g, o + 4, none⟩), .pointer (some ⟨g, o + 5, none⟩), .pointer (some ⟨g, o + 6, none⟩), .pointer (some ⟨g, o + 7, none⟩)]
set_option maxHeartbeats 4000000 in
theorem numbersOf_any (g o : Nat) (w : World) : Calls Tryz.prog 119 #[.pointer (some ⟨g, o, none⟩)] w fun e w' => ∃ gs, e = .returned (.slice (some ⟨gs, 0, none⟩) 7 7) ∧ w.heap.size ≤ gs ∧ w'.heap[gs]? = some (.cells (ptrs g o) 161 (0, 0)) ∧ Below w.heap.size w w' := by
  go_enter Tryz.func119, Tryz.ntmps119
  go_wp2_with fail
  refine wp_region_pieces 22  [(true, [0, 1, 2, 3, 4, 5, 6, 7, 8, 9, 10, 11, 12, 13, 14, 15, 16, 17, 18, 19, 20]), (false, [21])] (by kernel_rfl) (by kernel_rfl) ?_; simp only [pick, List.map_cons, List.map_nil, List.flatMap_cons, List.flatMap_nil, Option.toList_some, List.singleton_append, List.drop_succ_cons, List.drop_zero, List.getElem?_cons_zero, List.getElem?_cons_succ]
  refine ⟨by kernel_rfl, ?_⟩; apply Exists.intro; refine ⟨fun ψ hψ hne => (by (repeat (go_big_quiet_step (( fail )))); exact wpQuiet_nil rfl), ?_⟩
  intro w1 h1 K hK
  go_wp2_with fail
  refine hK _ _ (extAl _ _) ?_
  clear hK K
  intro w3 h3
  go_wp2_with fail
  go_ret
  exact ⟨w1.heap.size, rfl, Below.size h1, Ext.blk h3 (heap_alloc_last w1 _), Ext.trans h1 (Ext.trans (extAl _ _) h3)⟩
def numsL (a : AtT) : List Int := [a.mode, a.links, a.size, a.mtime, a.ctime, a.ino, a.gen]
/-- The first k numbers are zero. -/
def zk (k : Nat) (a : AtT) : AtT := ⟨a.kind, if 0 < k then 0 else a.mode, if 1 < k then 0 else a.links, if 2 < k then 0 else a.size, if 3 < k then 0 else a.mtime, if 4 < k then 0 else a.ctime, if 5 < k then 0 else a.ino, if 6 < k then 0 else a.gen⟩
def attrB (a : AtT) : List UInt8 := beN a.kind 4 ++ (numsL a).flatMap intL
section
variable {W0 : World} {B gw ga : Nat} {b : List UInt8} {x : RsT} {rv : Value}
theorem setC8 {w : World} {g o : Nat} {T : TypeId} {row : Array Value} {x0 x1 x2 x3 x4 x5 x6 x7 : Value} (h : w.heap[g]? = some (.cells row T (0, 0))) :
    (((((((w.setCell ⟨g, o, none⟩ x0).setCell ⟨g, o + 1, none⟩ x1).setCell ⟨g, o + 2, none⟩ x2).setCell ⟨g, o + 3, none⟩ x3).setCell ⟨g, o + 4, none⟩ x4).setCell ⟨g, o + 5, none⟩ x5).setCell ⟨g, o + 6, none⟩ x6).setCell ⟨g, o + 7, none⟩ x7 = w.setRow g ((((((((row.setIfInBounds o x0).setIfInBounds (o + 1) x1).setIfInBounds (o + 2) x2).setIfInBounds (o + 3) x3).setIfInBounds (o + 4) x4).setIfInBounds (o + 5) x5).setIfInBounds (o + 6) x6).setIfInBounds (o + 7) x7) := by
  rw [setCell_eq_setRow w g o _ T (0, 0) _ h]
  rw [setCell_eq_setRow _ g (o + 1) _ T (0, 0) _ (setRow_heap w g row _ T (0, 0) h), setRow_setRow]
  rw [setCell_eq_setRow _ g (o + 2) _ T (0, 0) _ (setRow_heap w g row _ T (0, 0) h), setRow_setRow]
  rw [setCell_eq_setRow _ g (o + 3) _ T (0, 0) _ (setRow_heap w g row _ T (0, 0) h), setRow_setRow]
  rw [setCell_eq_setRow _ g (o + 4) _ T (0, 0) _ (setRow_heap w g row _ T (0, 0) h), setRow_setRow]
  rw [setCell_eq_setRow _ g (o + 5) _ T (0, 0) _ (setRow_heap w g row _ T (0, 0) h), setRow_setRow]
  rw [setCell_eq_setRow _ g (o + 6) _ T (0, 0) _ (setRow_heap w g row _ T (0, 0) h), setRow_setRow]
  rw [setCell_eq_setRow _ g (o + 7) _ T (0, 0) _ (setRow_heap w g row _ T (0, 0) h), setRow_setRow]
/-- The state from here on, and back. -/
theorem WrQ.re {W0 w : World} {B gw ga : Nat} {Ta : TypeId} {q : Bool} {b : List UInt8} {row : Array Value} (h : WrQ W0 w B gw ga Ta q b row) : WrQ w w B gw ga Ta q b row := { h with mu := Mut.refl _ _ }
theorem WrQ.un {W0 w w' : World} {B gw ga : Nat} {Ta : TypeId} {q q' : Bool} {b b' : List UInt8} {row row' : Array Value} (h : WrQ W0 w B gw ga Ta q b row) (k : WrQ w w' B gw ga Ta q' b' row') : WrQ W0 w' B gw ga Ta q' b' row' := { k with mu := h.mu.trans k.mu }
end
end Go.Proofs.YteahlnoonmfjhaaGreat
