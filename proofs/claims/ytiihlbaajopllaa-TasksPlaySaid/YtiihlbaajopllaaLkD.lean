/- Walks of locks: how a row lies in memory; the walk over it, for any closure; may. -/
import Derived.Test.YtiihlbaajopllaaLkC
import Derived.Lib.Hide
set_option linter.unusedVariables false
set_option maxRecDepth 100000
namespace Go.Proofs.Ytiihlbaajopllaa
open Go.RowKit

structure Nd where
  a : Nat
  wv : Value
  p : Tk
  has : Bool
def ptrAt (ns : List Nd) (i : Nat) : Value := .pointer ((ns[i]?).map fun x => ⟨x.a, 0, none⟩)
structure LkP (w : World) (S : Nat → Prop) (g : Nat) (ns : List Nd) : Prop where
  hg : w.heap[g]? = some (.cells #[ptrAt ns 0] 91 (0, 0))
  nd : ∀ (i : Nat) (x : Nd), ns[i]? = some x → w.heap[x.a]? = some (.cells #[.int .i64 x.p.1, x.wv, .bool x.has, ptrAt ns (i + 1)] 95 (0, 0))
  wn : ∀ (i : Nat) (x : Nd), ns[i]? = some x → OwnR w 0 52 2 One x.wv x.p.2.length (wncs x.p.2)
  inj : ∀ (i j : Nat) (x y : Nd), ns[i]? = some x → ns[j]? = some y → x.a = y.a → i = j
  sg : S g
  sa : ∀ (i : Nat) (x : Nd), ns[i]? = some x → S x.a
  sw : ∀ (i : Nat) (x : Nd), ns[i]? = some x → ∀ b, x.wv.ownBlock = some b → S b
  len : ns.length ≤ 16
  wl : ∀ (i : Nat) (x : Nd), ns[i]? = some x → x.p.2.length ≤ 4
theorem blk4 {w : World} {g : Nat} {T : TypeId} {a b c d : Value} (k : w.heap[g]? = some (.cells #[a, b, c, d] T (0, 0))) :
    w.cell? ⟨g, 0, none⟩ = some a ∧ w.cell? ⟨g, 1, none⟩ = some b ∧ w.cell? ⟨g, 2, none⟩ = some c ∧ w.cell? ⟨g, 3, none⟩ = some d ∧ (∀ o, w.frozen? ⟨g, o, none⟩ = false) ∧ g < w.heap.size :=
  ⟨by simp [World.cell?, k], by simp [World.cell?, k], by simp [World.cell?, k], by simp [World.cell?, k], fun o => by simp [World.frozen?, k], (Array.getElem?_eq_some_iff.1 k).1⟩
theorem blk1 {w : World} {g : Nat} {T : TypeId} {a : Value} (k : w.heap[g]? = some (.cells #[a] T (0, 0))) :
    w.cell? ⟨g, 0, none⟩ = some a ∧ (∀ o, w.frozen? ⟨g, o, none⟩ = false) ∧ g < w.heap.size :=
  ⟨by simp [World.cell?, k], fun o => by simp [World.frozen?, k], (Array.getElem?_eq_some_iff.1 k).1⟩
theorem set1_0 {w : World} {g : Nat} {T : TypeId} {a : Value} (x : Value) (k : w.heap[g]? = some (.cells #[a] T (0, 0))) : w.setCell ⟨g, 0, none⟩ x = w.setRow g #[x] := by
  rw [setCell_eq_setRow w g 0 _ T (0, 0) _ k]; rfl
theorem LkP.mutw {w w' : World} {S T : Nat → Prop} {g : Nat} {ns : List Nd} (h : LkP w S g ns) (k : Mut T w w') (hd : ∀ i, S i → ¬ T i) : LkP w' S g ns :=
  { h with
    hg := (k.block g (Array.getElem?_eq_some_iff.1 h.hg).1 (hd _ h.sg)).trans h.hg
    nd := fun i x hx => (k.block x.a (Array.getElem?_eq_some_iff.1 (h.nd i x hx)).1 (hd _ (h.sa i x hx))).trans (h.nd i x hx)
    wn := fun i x hx => (h.wn i x hx).mutO k fun b hb => hd _ (h.sw i x hx b hb) }
theorem LkP.mono {w : World} {S S' : Nat → Prop} {g : Nat} {ns : List Nd} (h : LkP w S g ns) (k : ∀ i, S i → S' i) : LkP w S' g ns :=
  { h with sg := k _ h.sg, sa := fun i x hx => k _ (h.sa i x hx), sw := fun i x hx b hb => k _ (h.sw i x hx b hb) }
theorem LkP.ext {w w' : World} {S : Nat → Prop} {g : Nat} {ns : List Nd} (h : LkP w S g ns) (k : Ext w w') : LkP w' S g ns := h.mutw (T := fun _ => False) (Mut.of_ext k) fun _ _ h => h
theorem LkP.pt {w : World} {S : Nat → Prop} {g : Nat} {ns : List Nd} (h : LkP w S g ns) {i : Nat} {x : Nd} (hx : ns[i]? = some x) : PtAt w x.a x.p.2 x.wv := by
  obtain ⟨c0, c1, c2, c3, fz, hlt⟩ := blk4 (h.nd i x hx)
  exact ⟨c1, (h.wn i x hx).rr (by omega), _, h.nd i x hx⟩
theorem ptrAt_some {ns : List Nd} {i : Nat} {x : Nd} (h : ns[i]? = some x) : ptrAt ns i = .pointer (some ⟨x.a, 0, none⟩) := by unfold ptrAt; rw [h]; rfl
theorem ptrAt_none {ns : List Nd} {i : Nat} (h : ns.length ≤ i) : ptrAt ns i = .pointer none := by unfold ptrAt; rw [List.getElem?_eq_none h]; rfl

set_option maxHeartbeats 1000000 in
/-- The walk over the row, for any closure. -/
theorem over_any {f : FuncId} {lb : Array Value} (ef : Go.Proofs.Enters Try.prog f) {g : Nat} {ns : List Nd} (I : Nat → World → Prop) (J : World → Prop) (w : World) (h0 : I 0 w) (hg : w.cell? ⟨g, 0, none⟩ = some (ptrAt ns 0))
    (step : ∀ (k : Nat) (x : Nd) (W : World), ns[k]? = some x → I k W → Calls Try.prog f (#[.pointer (some ⟨x.a, 0, none⟩)] ++ lb) W fun e W' =>
      (e = .returned (.bool true) ∧ I (k + 1) W' ∧ W'.cell? ⟨x.a, 3, none⟩ = some (ptrAt ns (k + 1))) ∨ (e = .returned (.bool false) ∧ J W'))
    (fin : ∀ W, I ns.length W → J W) :
    Calls Try.prog 51 #[.pointer (some ⟨g, 0, none⟩), .func (.func f) #[] lb] w fun e w' => e = .returned (.tuple #[]) ∧ J w' := by
  have ST := Lib.hid step
  have FI := Lib.hid fin
  have H0 := Lib.hid h0
  unfold Go.Proofs.Enters at ef
  clear step fin h0
  go_enter Try.func51, Try.ntmps51
  go_wp2
  go_loopg [4] ns.length (fun gg p wr => ∃ k : Nat, k ≤ ns.length ∧ ns.length - k ≤ gg ∧ p = ptrAt ns k ∧ Hid (I k wr))
  case atStart => exact ⟨0, Nat.zero_le _, by omega, rfl, H0⟩
  case round =>
    obtain ⟨k, hk, hgg, rfl, HI⟩ := hrel
    by_cases hlt : k < ns.length
    · obtain ⟨x, hx⟩ : ∃ x, ns[k]? = some x := ⟨_, List.getElem?_eq_getElem hlt⟩
      have hcall := Lib.hid (ST.out k x wr hx HI.out)
      rw [ptrAt_some hx]
      have HX := Lib.hid hx
      clear hx
      go_wp2_with fail
      go_at_fn f
      refine hcall.out.mono ?_
      rintro e w' (⟨rfl, h1, h2⟩ | ⟨rfl, h1⟩)
      · have H1 := Lib.hid h1
        clear h1
        go_wp2
        go_roundg (ns.length - (k + 1))
        case measure => omega
        case rel => exact ⟨k + 1, by omega, by omega, rfl, H1⟩
      · have H1 := Lib.hid h1
        clear h1
        go_wp2
        go_end0
        exact ⟨rfl, H1.out⟩
    · obtain rfl : k = ns.length := by omega
      rw [ptrAt_none (Nat.le_refl _)]
      go_wp2
      go_end0
      exact ⟨rfl, FI.out _ HI.out⟩
end Go.Proofs.Ytiihlbaajopllaa
