/- Plain law of locks: a row of tasks with their wants; what asking and dropping make of it. No program in sight. -/
import Derived.Test.YtiihlbaajopllaaBase
set_option linter.unusedVariables false
namespace Go.Proofs.Ytiihlbaajopllaa

abbrev Wn := Int × Bool
abbrev Tk := Int × List Wn
/-- Two wants clash. -/
def clashW (a b : Wn) : Bool := decide (a.1 = b.1) && (a.2 || b.2)
def clashL (a b : List Wn) : Bool := a.any fun x => b.any fun y => clashW x y
/-- A list of wants may not be. -/
def badAt (l : List Wn) (i : Nat) : Bool := match l[i]? with
  | some x => decide (x.1 < 1) || (l.take i).any fun y => decide (y.1 = x.1)
  | none => false
def wrongL (l : List Wn) : Bool := decide (4 < l.length) || (List.range l.length).any (badAt l)
/-- None of those ahead clashes. -/
def mayB (ahead : List Tk) (p : List Wn) : Bool := !(ahead.any fun q => clashL q.2 p)
/-- The one at a place has its wants. -/
def hasAt (L : List Tk) (i : Nat) : Bool := match L[i]? with
  | some p => mayB (L.take i) p.2
  | none => false
def atL (L : List Tk) (n : Int) : Option Nat := L.findIdx? fun p => decide (p.1 = n)
def hasL (L : List Tk) (n : Int) : Bool := match atL L n with
  | some i => hasAt L i
  | none => false
def askE (L : List Tk) (n : Int) (l : List Wn) : Int :=
  if n < 0 ∨ wrongL l = true then 1 else if (atL L n).isSome then 6 else if 16 ≤ L.length then 3 else 0
def askL (L : List Tk) (n : Int) (l : List Wn) : List Tk := if askE L n l = 0 then L ++ [(n, l)] else L
def askB (L : List Tk) (n : Int) (l : List Wn) : Bool := if askE L n l = 0 then mayB L l else false
/-- Those who have their wants by a drop. -/
def toldK (old new : List Tk) (i k : Nat) : List Int := if !hasAt old (if k < i then k else k + 1) && hasAt new k then (new[k]?.map (·.1)).toList else []
def toldL (L : List Tk) (i : Nat) : List Int := (List.range (L.eraseIdx i).length).flatMap (toldK L (L.eraseIdx i) i)
def dropL (L : List Tk) (n : Int) : List Tk := match atL L n with
  | some i => L.eraseIdx i
  | none => L
def dropT (L : List Tk) (n : Int) : List Int := match atL L n with
  | some i => toldL L i
  | none => []
def dropE (L : List Tk) (n : Int) : Int := if (atL L n).isSome then 0 else 5

theorem clashL_nil (a : List Wn) : clashL a [] = false := by unfold clashL; simp
theorem mayB_nil (p : List Wn) : mayB [] p = true := rfl
theorem mayB_app (a b : List Tk) (p : List Wn) : mayB (a ++ b) p = (mayB a p && mayB b p) := by
  unfold mayB
  rw [List.any_append, Bool.not_or]
theorem mayB_sub {a b : List Tk} {p : List Wn} (h : ∀ q ∈ a, q ∈ b) (hb : mayB b p = true) : mayB a p = true := by
  unfold mayB at *
  simp only [Bool.not_eq_true', List.any_eq_false] at *
  exact fun q hq => hb q (h q hq)
theorem mayB_succ {L : List Tk} {k : Nat} {q : Tk} (hq : L[k]? = some q) (p : List Wn) : mayB (L.take (k + 1)) p = (mayB (L.take k) p && !clashL q.2 p) := by
  rw [List.take_add_one, hq, mayB_app]
  simp [mayB]
theorem atL_spec (L : List Tk) (n : Int) : (atL L n = none ∧ ∀ p ∈ L, p.1 ≠ n) ∨ ∃ i p, atL L n = some i ∧ L[i]? = some p ∧ p.1 = n ∧ ∀ j q, j < i → L[j]? = some q → q.1 ≠ n := by
  unfold atL
  cases h : L.findIdx? (fun p => decide (p.1 = n)) with
  | none =>
    left
    rw [List.findIdx?_eq_none_iff] at h
    exact ⟨rfl, fun p hp => by simpa using h p hp⟩
  | some i =>
    right
    rw [List.findIdx?_eq_some_iff_getElem] at h
    obtain ⟨hi, h1, h2⟩ := h
    refine ⟨i, L[i], rfl, List.getElem?_eq_getElem hi, by simpa using h1, fun j q hj hq => ?_⟩
    obtain ⟨hjl, rfl⟩ := List.getElem?_eq_some_iff.1 hq
    simpa using h2 j hj
theorem hasAt_lt {L : List Tk} {i : Nat} (h : hasAt L i = true) : i < L.length := by
  unfold hasAt at h
  split at h
  · rename_i p hp; exact (List.getElem?_eq_some_iff.1 hp).1
  · cases h
theorem hasAt_some {L : List Tk} {i : Nat} {p : Tk} (h : L[i]? = some p) : hasAt L i = mayB (L.take i) p.2 := by unfold hasAt; rw [h]
/-- Where a row is longer nothing becomes of those who stood in it. -/
theorem hasAt_app (L M : List Tk) {i : Nat} (h : i < L.length) : hasAt (L ++ M) i = hasAt L i := by
  unfold hasAt
  rw [List.getElem?_append_left h, List.take_append_of_le_length (by omega)]
/-- By a drop one has its wants, if it had them. -/
theorem hasAt_erase (L : List Tk) {i k : Nat} (hi : i < L.length) (h : hasAt L (if k < i then k else k + 1) = true) : hasAt (L.eraseIdx i) k = true := by
  by_cases hk : k < i
  · rw [if_pos hk] at h
    have hk' := hasAt_lt h
    unfold hasAt at *
    rw [List.getElem?_eraseIdx_of_lt hk]
    rw [List.getElem?_eq_getElem hk'] at h ⊢
    simp only at *
    refine mayB_sub (fun q hq => ?_) h
    obtain ⟨j, hj, rfl⟩ := List.getElem_of_mem hq
    simp only [List.length_take] at hj
    rw [List.getElem_take, List.getElem_eraseIdx_of_lt _ (by omega)]
    exact List.mem_take_iff_getElem.2 ⟨j, by omega, rfl⟩
  · rw [if_neg hk] at h
    have hk' := hasAt_lt h
    unfold hasAt at *
    rw [List.getElem?_eraseIdx_of_ge (by omega)]
    rw [List.getElem?_eq_getElem hk'] at h ⊢
    simp only at *
    refine mayB_sub (fun q hq => ?_) h
    obtain ⟨j, hj, rfl⟩ := List.getElem_of_mem hq
    simp only [List.length_take] at hj
    rw [List.getElem_take]
    by_cases hji : j < i
    · rw [List.getElem_eraseIdx_of_lt _ hji]
      exact List.mem_take_iff_getElem.2 ⟨j, by omega, rfl⟩
    · rw [List.getElem_eraseIdx_of_ge _ (by omega)]
      exact List.mem_take_iff_getElem.2 ⟨j + 1, by omega, rfl⟩
/-- Ahead of the place of a drop nothing becomes of anyone. -/
theorem hasAt_ahead (L : List Tk) {i k : Nat} (hk : k < i) : hasAt (L.eraseIdx i) k = hasAt L k := by
  unfold hasAt
  rw [List.getElem?_eraseIdx_of_lt hk]
  have : (L.eraseIdx i).take k = L.take k := by
    apply List.ext_getElem?
    intro j
    rw [List.getElem?_take, List.getElem?_take]
    by_cases hj : j < k
    · rw [if_pos hj, if_pos hj, List.getElem?_eraseIdx_of_lt (by omega)]
    · rw [if_neg hj, if_neg hj]
  rw [this]
theorem toldK_ahead (L : List Tk) {i k : Nat} (hk : k < i) : toldK L (L.eraseIdx i) i k = [] := by
  unfold toldK
  rw [if_pos hk, hasAt_ahead L hk]
  cases hasAt L k <;> rfl
end Go.Proofs.Ytiihlbaajopllaa
