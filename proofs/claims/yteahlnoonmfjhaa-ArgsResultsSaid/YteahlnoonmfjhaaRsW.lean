/- Plain law of results: the words by the program's way, told at once. -/
import Derived.Test.YteahlnoonmfjhaaRsF
set_option linter.unusedVariables false
set_option maxRecDepth 100000
namespace Go.Proofs.Yteahlnoonmfjhaa

def okR (x : RsT) (c : UInt8) : Bool := (putR c x).isSome
def encR (x : RsT) (c : UInt8) : List UInt8 := (putR c x).getD []
def zR (x : RsT) (c : UInt8) : Bool := decide (clrR c x = x)
theorem putR_clr {c d : UInt8} (hc : c ∈ lettersT) (hd : d ∈ lettersT) (hne : c ≠ d) (x : RsT) : putR c (clrR d x) = putR c x := by
  simp only [lettersT, List.mem_cons, List.not_mem_nil, or_false] at hc hd
  rcases hd with rfl | rfl | rfl | rfl | rfl | rfl | rfl | rfl | rfl <;>
  (rcases hc with rfl | rfl | rfl | rfl | rfl | rfl | rfl | rfl | rfl <;> first | exact absurd rfl hne | simp [putR, clrR])
theorem putAllR_eq : ∀ (l : List UInt8) (x : RsT) (b : List UInt8), l.Nodup → (∀ c ∈ l, c ∈ lettersT) → putAllR l x b = if l.all (okR x) then some (b ++ l.flatMap (encR x), l.foldl (fun x c => clrR c x) x) else none
  | [], x, b, _, _ => by simp [putAllR]
  | c :: l, x, b, hn, hm => by
    have hn' := List.nodup_cons.1 hn
    have hml : ∀ d ∈ l, d ∈ lettersT := fun d hd => hm d (List.mem_cons_of_mem _ hd)
    have hc := hm c List.mem_cons_self
    unfold putAllR
    cases h : putR c x with
    | none => simp [okR, h]
    | some y =>
      simp only
      rw [putAllR_eq l (clrR c x) (b ++ y) hn'.2 hml]
      have hne : ∀ d ∈ l, d ≠ c := fun d hd e => hn'.1 (e ▸ hd)
      have e1 : l.all (okR (clrR c x)) = l.all (okR x) := by
        rw [Bool.eq_iff_iff]
        simp only [List.all_eq_true]
        constructor <;> intro k d hd <;> have := k d hd <;> simpa [okR, putR_clr (hml d hd) hc (hne d hd)] using this
      have e2 : l.flatMap (encR (clrR c x)) = l.flatMap (encR x) := by
        have : ∀ d ∈ l, encR (clrR c x) d = encR x d := fun d hd => by unfold encR; rw [putR_clr (hml d hd) hc (hne d hd)]
        rw [List.flatMap_def, List.flatMap_def, List.map_congr_left this]
      rw [e1, e2]
      have e3 : okR x c = true := by unfold okR; rw [h]; rfl
      have e4 : encR x c = y := by unfold encR; rw [h]; rfl
      simp [e3, e4]
/-- The words and the error of one procedure's letters, told at once. -/
theorem finT_eq (l : List UInt8) (x : RsT) (b : List UInt8) (hn : l.Nodup) (hm : ∀ c ∈ l, c ∈ lettersT) :
    finT (putAllR l x b) = if l.all (okR x) = true ∧ l.foldl (fun x c => clrR c x) x = rs0 then (b ++ l.flatMap (encR x), 0) else ([], 4) := by
  rw [putAllR_eq l x b hn hm]
  by_cases h1 : l.all (okR x) = true
  · rw [if_pos h1]
    by_cases h2 : l.foldl (fun x c => clrR c x) x = rs0
    · rw [if_pos ⟨h1, h2⟩]
      show (if _ = rs0 then _ else _) = _
      rw [if_pos h2]
    · rw [if_neg (fun h => h2 h.2)]
      show (if _ = rs0 then _ else _) = _
      rw [if_neg h2]
  · rw [if_neg h1, if_neg (fun h => h1 h.1)]
    rfl
end Go.Proofs.Yteahlnoonmfjhaa
