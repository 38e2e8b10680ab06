/- Generic: a range over a function whose iterator keeps state of its own in cells: the law for the caller. No statement of its own. -/
import Derived.Test.YtbbkailmlaffjaaGen
import Derived.RangeFuncKeeps
set_option linter.unusedVariables false
namespace Go.Proofs.Ytbbkailmlaffjaa
open Go.RowKit

def stPost (J : World → Prop) : Exit → Act → World → Prop
  | .normal, _, W => J W
  | _, _, _ => False
variable {F : Fence} {n : Nat} {P : Program}
theorem wpIn_rangeFunc_st {σ α : Type} {g : Operand} {ps : Array Tmp} {assign body : Code} {Q : Exit → Act → World → Prop} {a : Act} {w : World}
    (hro : F.round = none) (h1 : 1 ≤ n) {gf : Nat} {lb : Array Value} (hg : a.eval g = .func (.func gf) #[] lb) (hFg : F.fn gf) (eg : ∀ args w, (callFunc gf args).run P w = .ok (.enter gf args) w)
    {encs : α → Array Value} (hps : ∀ x, (encs x).size = ps.size)
    (J : σ → List α → Obj → World → Prop)
    (hJl : ∀ s xs o W, J s xs o W → W.heap[w.heap.size + 1]? = some o ∧ W.heap[w.heap.size]? = some (.deferred (some [])))
    (hJp : ∀ s xs (r r' : Loop) W, J s xs (.loop r) W → J s xs (.loop r') (W.putObj (w.heap.size + 1) (.loop r')))
    (s0 : σ) (h0 : ∀ r : Loop, J s0 [] (.loop r) ((w.alloc (.deferred (some []))).alloc (.loop r)))
    (Sx : List α → σ → Prop) (N : Nat)
    (hseq : ∀ (o : Obj), (∀ s pre x W1, J s pre o W1 → pre.length < N → YieldAt F (n - 1 - 1) P (w.heap.size + 1) (encs x) W1 fun e W' => e = .returned (.bool true) ∧ J s (pre ++ [x]) o W') →
      ∀ W, J s0 [] o W → CallsIn F (n - 1) P gf (#[.func (.yield (w.heap.size + 1)) #[] #[]] ++ lb) W fun e W' => (∃ v, e = .returned v) ∧ ∃ xs s, Sx xs s ∧ J s xs o W')
    (a₁ : α → Act)
    (hassign : ∀ (l : Nat) (x : α) (W : World) (K : Act → World → Prop), K (a₁ x) W →
      assign.wpIn (F.inRound l) (n - 1 - 1) P (Exit.then K (fun _ _ _ => False)) { tmps := (ps.zip (encs x)).foldl (fun t (p, v) => t.setIfInBounds p v) a.tmps, defers := [] } W)
    (hbody : ∀ s pre x o W, J s pre o W → pre.length < N → body.wpIn (F.inRound (w.heap.size + 1)) (n - 1 - 1) P (stPost (J s (pre ++ [x]) o)) (a₁ x) W)
    (hdone : ∀ xs s o W, Sx xs s → J s xs o W → Q .normal { a with defers := { target := .collected w.heap.size, args := #[] } :: a.defers } W) :
    (Code.rangeFunc g ps assign body).wpIn F n P Q a w := by
  refine wpIn_rangeFunc ?_
  intro fn hfn
  rw [hro]
  obtain ⟨rec, hrec⟩ : ∃ rec : LoopState → Option Code → Loop, rec = fun st pe => { state := st, pending := pe, fn, tmps := a.tmps, params := ps, assign, body, defers := w.heap.size } := ⟨_, rfl⟩
  obtain ⟨W1, hW1⟩ : ∃ W1, (w.alloc (.deferred (some []))).alloc (.loop (rec .ready none)) = W1 := ⟨_, rfl⟩
  have hI1 : J s0 [] (.loop (rec .ready none)) W1 := by rw [← hW1]; exact h0 _
  refine ⟨w.heap.size + 1, [{ target := .collected w.heap.size, args := #[] }], W1, { target := .fn (.func gf) lb, args := #[.func (.yield (w.heap.size + 1)) #[] #[]] }, W1, gf,
    #[.func (.yield (w.heap.size + 1)) #[] #[]] ++ lb, W1, ?_, ?_, ?_, ?_, fun _ => h1, ?_⟩
  · rw [← hW1, hrec]; exact run_enterLoop_outer _ _ _ _ _
  · simp only [resolve, hg]
    simp [go_sem]
  · intro f' hf'; simp [Target.leads] at hf'; subst hf'; exact hFg
  · simp [invoke, go_sem, eg]
  · refine (hseq (.loop (rec .ready none)) ?_ W1 hI1).mono ?_
    · rintro s pre x W hj hlen
      obtain ⟨hl, hk⟩ := hJl _ _ _ _ hj
      have hy := run_yield (P := P) (args := encs x) hl (by rw [hrec]; exact hps x)
      rw [hrec] at hy
      refine ⟨fn, _, assign, body, hy, roundIn_of_wpIn hfn (hassign _ x W _ ⟨_, run_beginRound hl (by rw [hrec]), ?_⟩)⟩
      have hj2 : J s pre (.loop { rec .ready none with state := .busy }) (W.putObj (w.heap.size + 1) (.loop { rec .ready none with state := .busy })) := hJp _ _ _ _ _ hj
      refine wpIn_mono (hbody s pre x _ _ hj2 hlen) ?_
      rintro e a3 W3 hp
      cases e with
      | normal =>
        have hj3 : J s (pre ++ [x]) (.loop { rec .ready none with state := .busy }) W3 := hp
        have hl3 := (hJl _ _ _ _ hj3).1
        have := run_endRound (P := P) none hl3
        rw [hrec] at this
        refine ⟨_, _, this, ?_⟩
        have hj4 := hJp _ _ _ (rec .ready none) _ hj3
        rw [hrec] at hj4 ⊢
        exact ⟨rfl, hj4⟩
      | ret => exact hp.elim
      | exit id => exact hp.elim
      | goto t => exact hp.elim
      | panic ch => exact hp.elim
      | outgrown => exact hp.elim
    · rintro e W2 ⟨⟨v, rfl⟩, xs, s, hS, hj⟩
      obtain ⟨hl, hk⟩ := hJl _ _ _ _ hj
      have hend := run_endLoop (P := P) hl (by rw [hrec]; simp)
      rw [hrec] at hend
      exact ⟨none, _, hend, hdone xs s _ _ hS (hJp _ _ _ _ _ hj)⟩
end Go.Proofs.Ytbbkailmlaffjaa
