/- RingAny's array of two roots; the plain law of its round. -/
import Derived.Test.YtobcfocbglkicaaRgH
import Derived.Test.YtobcfocbglkicaaVS
import Derived.Test.YtobcfocbglkicaaDkQ
set_option linter.unusedVariables false
set_option maxRecDepth 100000
namespace Go.Proofs.Ytobcfocbglkicaa
open Go.RowKit

def rt2 (a b : RoT) : Array Value := #[.int .i64 a.t, .string (str a.l), .int .i64 b.t, .string (str b.l)]
theorem alloc_rt2 (w : World) : (Instr.alloc 80 true (.tuple #[])).run Try.prog w = .ok (.pointer (some ⟨w.heap.size, 0, none⟩)) (w.alloc (.cells (rt2 ⟨0, []⟩ ⟨0, []⟩) 80)) := by kernel_rfl
/-- One of two. -/
def pick2 (p : Nat) (a b : RoT) : RoT := if p = 0 then a else b
theorem rkS_no {t : Int} {l : List UInt8} (h : ¬ (1 ≤ t ∧ t ≤ 2147483647)) : rkS t l = (zB, 1) := by unfold rkS; rw [if_neg h]
section
variable {W w : World} {loc : List (Nat × Obj)} {ds : List (Nat × DK)}
theorem DSt.rtld (h : DSt W loc ds w) (i : Nat) {g : Nat} {a b : RoT} {T : TypeId} (hi : loc[i]? = some (g, .cells (rt2 a b) T (0, 0))) (p : Nat) (hp : p < 2) :
    (Instr.loadAt 29 (.pointer (some ⟨g, p * 2, none⟩))).run Try.prog w = .ok (.agg (rtC (pick2 p a b))) w := by
  have hg := h.get i hi
  refine run_loadAt_mid w g (p * 2) _ [.int .i64 (pick2 p a b).t, .string (str (pick2 p a b).l)] _ (fun j v hv => ?_) Try.underlying29 rfl (by rw [info_rt]; rfl)
  rw [cell_of_row _ _ _ _ _ _ hg]
  have hj := (List.getElem?_eq_some_iff.1 hv).1
  simp only [List.length_cons, List.length_nil] at hj
  rw [← hv]
  match p, j, hp, hj with
  | 0, 0, _, _ => rfl
  | 0, 1, _, _ => rfl
  | 1, 0, _, _ => rfl
  | 1, 1, _, _ => rfl
theorem DSt.rtst (h : DSt W loc ds w) (i : Nat) {g : Nat} {a b x : RoT} {T : TypeId} (hi : loc[i]? = some (g, .cells (rt2 a b) T (0, 0))) (p : Nat) (hp : p < 2) :
    (Instr.storeAt 29 (.pointer (some ⟨g, p * 2, none⟩)) (.agg (rtC x))).run Try.prog w = .ok () (w.setRow g (rt2 (pick2 p x a) (pick2 p b x))) ∧ DSt W (loc.set i (g, .cells (rt2 (pick2 p x a) (pick2 p b x)) T (0, 0))) ds (w.setRow g (rt2 (pick2 p x a) (pick2 p b x))) := by
  have hg := h.get i hi
  refine ⟨?_, h.row i hi _⟩
  have ht : w.there g (p * 2) (rtC x).size := fun j hj => by
    refine ⟨?_, by simp [World.frozen?, hg]⟩
    rw [cell_of_row _ _ _ _ _ _ hg]
    have hj' : j < 2 := hj
    match p, j, hp, hj' with
    | 0, 0, _, _ => rfl
    | 0, 1, _, _ => rfl
    | 1, 0, _, _ => rfl
    | 1, 1, _, _ => rfl
  rw [run_storeAt_mid w g (p * 2) _ _ ht (by rw [info_rt]; rfl) (by simp [rtC, Value.oneCell'])]
  match p, hp with
  | 0, _ =>
    have := setCells_row [.int .i64 x.t, .string (str x.l)] [] [.int .i64 a.t, .string (str a.l)] [.int .i64 b.t, .string (str b.l)] w g T hg rfl
    exact congrArg (Result.ok ()) this
  | 1, _ =>
    have := setCells_row [.int .i64 x.t, .string (str x.l)] [.int .i64 a.t, .string (str a.l)] [.int .i64 b.t, .string (str b.l)] [] w g T hg rfl
    exact congrArg (Result.ok ()) this
end
/-- A block that came to be since is one's own. -/
theorem DSt.adopt {W w w' : World} {loc : List (Nat × Obj)} {ds : List (Nat × DK)} (h : DSt W loc ds w) (k : Ext w w') {g : Nat} {o : Obj} (hg : w.heap.size ≤ g) (hb : w'.heap[g]? = some o) : DSt W ((g, o) :: loc) ds w' := by
  have h' := h.ext k
  refine ⟨h'.bel, fun p hp => ?_, ?_, ?_⟩
  · rcases List.mem_cons.1 hp with rfl | hp
    · exact ⟨Nat.le_trans h.bel.size hg, hb⟩
    · exact h'.cel p hp
  · rw [List.map_cons, List.nodup_cons]
    refine ⟨fun hm => ?_, h.nod⟩
    obtain ⟨p, hp, hk⟩ := List.mem_map.1 hm
    have := (Array.getElem?_eq_some_iff.1 (h.cel p hp).2).1
    omega
  · refine (h.dks.mono (L' := fun k => k < W.heap.size ∨ ∃ o', (k, o') ∈ (g, o) :: loc) fun k hk => ?_).out (T := fun _ => False) (Mut.of_ext k) fun _ h => h.elim
    rcases hk with hk | ⟨o', ho⟩
    · exact .inl (.inl hk)
    · rcases List.mem_cons.1 ho with e | ho
      · right
        have := congrArg Prod.fst e
        simp only at this
        omega
      · exact .inl (.inr ⟨o', ho⟩)
/-- A root is put at one of two places: what stands there then. -/
theorem pl2_put {on wt : List Wr} {a b : RoT} {t : Int} {l S : List UInt8} (h0 : PlR (on ++ wt) 0 a) (h1 : PlR (on ++ wt) 1 b) (ht : 1 ≤ t) (hS : rkS t l = (S, 0)) {p : Nat} (hp : p < 2) (hpl : placeR t = (p : Int)) :
    PlR (on ++ (wt ++ [((p : Int), S)])) 0 (pick2 p ⟨t, l⟩ a) ∧ PlR (on ++ (wt ++ [((p : Int), S)])) 1 (pick2 p b ⟨t, l⟩) := by
  have hx := PlR.put (on := on ++ wt) ht hS
  rw [hpl] at hx
  rw [← List.append_assoc]
  match p, hp with
  | 0, _ => exact ⟨hx, h1.other (by decide)⟩
  | 1, _ => exact ⟨h0.other (by decide), hx⟩
theorem newest_pl2 {n c : Int} {on wt : List Wr} {keep : List Bool} {a b : RoT} (h0 : PlR (on ++ wt) 0 a) (h1 : PlR (on ++ wt) 1 b) (hn : 1 ≤ a.t ∨ 1 ≤ b.t) : DK.newest ⟨n, on, wt, c, keep, false⟩ = (if a.t < b.t then b else a, 0) := by
  have a0 := h0.ge
  unfold DK.newest
  rw [newest_two h0 h1, if_neg (by simp), if_neg]
  split <;> omega
end Go.Proofs.Ytobcfocbglkicaa
