/- Plain law of tasks: their row, places, what each is; whose turn it is. No program in sight. -/
import Derived.Test.YtiihlbaajopllaaLkR
set_option linter.unusedVariables false
namespace Go.Proofs.Ytiihlbaajopllaa

structure Te where
  p : Tk
  pl : Int
  is : Int
deriving DecidableEq
structure TK where
  L : List Te
  cnt : Int
  last : Int
abbrev Tn := Int × Int
def lkL (L : List Te) : List Tk := L.map (·.p)
def findT (L : List Te) (n : Int) : Option Te := L.find? fun e => decide (e.p.1 = n)
def canK (L : List Te) (i : Nat) : List Tn := match L[i]? with
  | some e => if e.is = 0 then (if hasAt (lkL L) i then [(e.p.1, 1)] else []) else if e.is = 2 then [(e.p.1, 3)] else []
  | none => []
def waitsB (L : List Te) : Bool := L.any fun e => decide (e.is = 1)
def canR (L : List Te) : List Tn := (List.range L.length).flatMap (canK L)
def canT (T : TK) : List Tn := canR T.L ++ if waitsB T.L then [(-1, 2)] else []
def placeT (L : List Te) (n : Int) : Int := match findT L n with
  | some e => e.pl
  | none => 0
def TK.add (T : TK) (n : Int) (l : List Wn) : TK := if askE (lkL T.L) n l = 0 then ⟨T.L ++ [⟨(n, l), T.cnt + 1, 0⟩], T.cnt + 1, T.last⟩ else T
def TK.addE (T : TK) (n : Int) (l : List Wn) : Int := askE (lkL T.L) n l
def setIs (L : List Te) (n is : Int) : List Te := L.map fun e => if e.p.1 = n then { e with is := is } else e
def TK.didE (T : TK) (n : Int) : Int := match findT T.L n with
  | none => 5
  | some e => if e.is = 0 ∧ hasL (lkL T.L) n = true then 0 else 50
def TK.did (T : TK) (n : Int) (wait : Bool) : TK := if T.didE n = 0 then { T with L := setIs T.L n (if wait then 1 else 2) } else T
def syncL (L : List Te) : List Int := (L.filter fun e => decide (e.is = 1)).map (·.p.1)
def TK.sync (T : TK) : TK := { T with L := T.L.map fun e => if e.is = 1 then { e with is := 2 } else e }
def TK.syncE (T : TK) : Int := if syncL T.L = [] then 5 else 0
def TK.replE (T : TK) (n : Int) : Int := match findT T.L n with
  | none => 5
  | some e => if e.is = 2 then 0 else 50
def TK.repl (T : TK) (n : Int) : TK := if T.replE n = 0 then { T with L := T.L.filter fun e => decide (e.p.1 ≠ n) } else T
def TK.clear (T : TK) : TK := { T with L := [] }
def pickI (l : List Tn) (n : Int) : Nat := ((n % 18446744073709551616) % (l.length : Int)).toNat
def TK.pick (T : TK) (n : Int) : TK × Tn × Int := match (canT T)[pickI (canT T) n]? with
  | none => (T, (0, 0), 5)
  | some x => ({ T with last := placeT T.L x.1 }, x, 0)
/-- The syncer, which stands behind all, is counted ahead of them. -/
def rotT (L : List Te) : List Tn := (if waitsB L then [(-1, 2)] else []) ++ canR L
def TK.next (T : TK) : TK × Tn × Int := match rotT T.L with
  | [] => (T, (0, 0), 5)
  | x0 :: l => let x := ((x0 :: l).find? fun x => decide (T.last < placeT T.L x.1)).getD x0; ({ T with last := placeT T.L x.1 }, x, 0)
/-- What holds of tasks. -/
structure TK.Ok (T : TK) : Prop where
  nd : (T.L.map (·.p.1)).Nodup
  n0 : ∀ e ∈ T.L, 0 ≤ e.p.1 ∧ e.p.1 ≤ 9223372036854775807
  is : ∀ e ∈ T.L, e.is = 0 ∨ e.is = 1 ∨ e.is = 2
  pl : ∀ e ∈ T.L, 1 ≤ e.pl ∧ e.pl ≤ T.cnt
  up : T.L.Pairwise fun a b => a.pl < b.pl
  len : T.L.length ≤ 16
  c0 : 0 ≤ T.cnt
  l0 : 0 ≤ T.last ∧ T.last ≤ T.cnt
theorem findT_none {L : List Te} {n : Int} (h : findT L n = none) : ∀ e ∈ L, e.p.1 ≠ n := fun e he => by
  unfold findT at h
  simpa using List.find?_eq_none.1 h e he
theorem findT_some {L : List Te} {n : Int} {e : Te} (h : findT L n = some e) : e ∈ L ∧ e.p.1 = n := by
  unfold findT at h
  exact ⟨List.mem_of_find?_eq_some h, by simpa using List.find?_some h⟩
theorem findT_mem {L : List Te} (hnd : (L.map (·.p.1)).Nodup) {e : Te} (he : e ∈ L) : findT L e.p.1 = some e := by
  induction L with
  | nil => cases he
  | cons a L ih =>
    unfold findT
    rw [List.find?_cons]
    simp only [List.map_cons, List.nodup_cons] at hnd
    rcases List.mem_cons.1 he with rfl | he
    · simp
    · have : ¬ a.p.1 = e.p.1 := fun h => hnd.1 (h ▸ List.mem_map.2 ⟨e, he, rfl⟩)
      rw [decide_eq_false this]
      exact ih hnd.2 he
theorem atL_of {L : List Te} (hnd : (L.map (·.p.1)).Nodup) {i : Nat} {e : Te} (hi : L[i]? = some e) : atL (lkL L) e.p.1 = some i := by
  rcases atL_spec (lkL L) e.p.1 with ⟨_, h⟩ | ⟨j, p, h1, h2, h3, _⟩
  · exact absurd rfl (h e.p (List.mem_map.2 ⟨e, List.mem_of_getElem? hi, rfl⟩))
  · rw [h1]
    congr 1
    rw [List.Nodup, List.pairwise_map, List.pairwise_iff_getElem] at hnd
    have hj : j < L.length := by simpa [lkL] using (List.getElem?_eq_some_iff.1 h2).1
    have hjp : L[j].p.1 = e.p.1 := by
      have : (lkL L)[j]? = some L[j].p := by simp [lkL, hj]
      rw [h2] at this
      cases this
      exact h3
    obtain ⟨hil, rfl⟩ := List.getElem?_eq_some_iff.1 hi
    rcases Nat.lt_trichotomy i j with h | h | h
    · exact absurd hjp.symm (hnd i j hil hj h)
    · exact h.symm
    · exact absurd hjp (hnd j i hj hil h)
theorem atL_iff (L : List Te) (n : Int) : (atL (lkL L) n).isSome = (findT L n).isSome := by
  cases h : findT L n with
  | none =>
    rcases atL_spec (lkL L) n with ⟨h1, _⟩ | ⟨j, p, _, h2, h3, _⟩
    · rw [h1]; rfl
    · obtain ⟨e, he, rfl⟩ := List.mem_map.1 (List.mem_of_getElem? h2)
      exact absurd h3 (findT_none h e he)
  | some e =>
    obtain ⟨he, rfl⟩ := findT_some h
    rcases atL_spec (lkL L) e.p.1 with ⟨_, h1⟩ | ⟨j, p, h1, _⟩
    · exact absurd rfl (h1 e.p (List.mem_map.2 ⟨e, he, rfl⟩))
    · rw [h1]; rfl
theorem hasL_of {L : List Te} (hnd : (L.map (·.p.1)).Nodup) {i : Nat} {e : Te} (hi : L[i]? = some e) : hasL (lkL L) e.p.1 = hasAt (lkL L) i := by
  unfold hasL
  rw [atL_of hnd hi]
theorem lkL_setIs (L : List Te) (n is : Int) : lkL (setIs L n is) = lkL L := by
  unfold lkL setIs
  rw [List.map_map]
  apply List.map_congr_left
  intro e _
  simp only [Function.comp_apply]
  split <;> rfl
end Go.Proofs.Ytiihlbaajopllaa
