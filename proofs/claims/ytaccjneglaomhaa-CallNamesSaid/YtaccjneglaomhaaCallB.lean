/- Walks of package call and jettyref03, that write: Write, Tell. -/
import Derived.Test.YtaccjneglaomhaaCallA
set_option linter.unusedVariables false
namespace Go.Proofs.Ytaccjneglaomhaa
open Go.RowKit

def headV (c x p : Int) (l : List UInt8) : Value := .agg #[.int .i64 c, .int .i64 x, .int .i64 p, .string (str l)]
def ansV (x e : Int) (l : List UInt8) : Value := .agg #[.int .i64 x, .int .i64 e, .string (str l)]
/-- A text and an error, as a function answers. -/
def seV (r : List UInt8 × Int) : Value := .tuple #[.string (str r.1), .int .i64 r.2]

theorem cells_of_ints {w : World} {g : Nat} {T : TypeId} {fr : Nat × Nat} {ns : List Int} (h : w.heap[g]? = some (.cells (ns.map (Value.int .i64)).toArray T fr)) : ∀ j (h : j < ns.length), w.cell? ⟨g, j, none⟩ = some (.int .i64 ns[j]) := by
  intro j hj
  rw [cell_of_row _ _ _ _ _ _ h]
  simp [hj]

theorem words6 (l : List UInt8) (a b c d e f : Int) (g : Nat) (w : World) (hg : g = w.heap.size) (hl : l.length ≤ 20000) :
    Calls Try.prog 66 #[.string (str l), .slice (some ⟨g, 0, none⟩) 6 6] (w.alloc (.cells #[.int .i64 a, .int .i64 b, .int .i64 c, .int .i64 d, .int .i64 e, .int .i64 f] 3)) fun r w' => r = .returned (.string (str (wordsL [a, b, c, d, e, f] ++ l))) ∧ Below w.heap.size w w' := by
  subst hg
  have h := words_any l [a, b, c, d, e, f] w.heap.size 6 (w.alloc (.cells ([a, b, c, d, e, f].map (Value.int .i64)).toArray 3)) hl (by simp) (by simp) (cells_of_ints (heap_alloc_last w _))
  exact h.mono fun _ _ ⟨h1, h2⟩ => ⟨h1, Below.trans ((Below.refl _ w).alloc (Nat.le_refl _) _) (h2.mono (by simp))⟩
theorem words3 (l : List UInt8) (a b c : Int) (g : Nat) (w : World) (hg : g = w.heap.size) (hl : l.length ≤ 20000) :
    Calls Try.prog 66 #[.string (str l), .slice (some ⟨g, 0, none⟩) 3 3] (w.alloc (.cells #[.int .i64 a, .int .i64 b, .int .i64 c] 3)) fun r w' => r = .returned (.string (str (wordsL [a, b, c] ++ l))) ∧ Below w.heap.size w w' := by
  subst hg
  have h := words_any l [a, b, c] w.heap.size 3 (w.alloc (.cells ([a, b, c].map (Value.int .i64)).toArray 3)) hl (by simp) (by simp) (cells_of_ints (heap_alloc_last w _))
  exact h.mono fun _ _ ⟨h1, h2⟩ => ⟨h1, Below.trans ((Below.refl _ w).alloc (Nat.le_refl _) _) (h2.mono (by simp))⟩

def cW (c x p : Int) (l : List UInt8) : List UInt8 × Int :=
  if 1 ≤ c ∧ c ≤ 16 ∧ isW x = true ∧ isW p = true ∧ wh l = true then if l.length ≤ 4072 then (wordsL [x, 0, 284, 3, c, p] ++ l, 0) else ([], 40) else ([], 1)

set_option maxHeartbeats 4000000 in
theorem cWrite_any (c x p : Int) (l : List UInt8) (w : World) (hl : l.length ≤ 20000) :
    Calls Try.prog 28 #[headV c x p l] w fun e w' => e = .returned (seV (cW c x p l)) ∧ Below w.heap.size w w' := by
  have hs := str_size l
  unfold headV
  by_cases h0 : 1 ≤ c
  case neg =>
    have hr : cW c x p l = ([], 1) := by simp [cW, h0]
    rw [hr]
    go_enter Try.func28, Try.ntmps28
    go_wp2
    go_ret2
    exact ⟨rfl, by (repeat' (first | (with_reducible assumption) | (with_reducible exact Below.refl _ _) | (with_reducible refine below_sc ?_ ?_) | ((with_reducible show (_ : Nat) ≤ _); omega) | refine Below.setCell ?_ (by first | omega | (simp; done) | (simp; omega)) _ | refine Below.alloc ?_ (by first | omega | (simp; done) | (simp; omega)) _ | refine Below.drew ?_ | refine below_drewN ?_ _ | refine Below.trans ?_ (Below.mono (by assumption) (by first | omega | (simp; done) | (simp; omega)))))⟩
  by_cases h1 : c ≤ 16
  case neg =>
    have hr : cW c x p l = ([], 1) := by simp [cW, h1]
    rw [hr]
    go_enter Try.func28, Try.ntmps28
    go_wp2
    go_ret2
    exact ⟨rfl, by (repeat' (first | (with_reducible assumption) | (with_reducible exact Below.refl _ _) | (with_reducible refine below_sc ?_ ?_) | ((with_reducible show (_ : Nat) ≤ _); omega) | refine Below.setCell ?_ (by first | omega | (simp; done) | (simp; omega)) _ | refine Below.alloc ?_ (by first | omega | (simp; done) | (simp; omega)) _ | refine Below.drew ?_ | refine below_drewN ?_ _ | refine Below.trans ?_ (Below.mono (by assumption) (by first | omega | (simp; done) | (simp; omega)))))⟩
  cases h2 : isW x
  case false =>
    have hr : cW c x p l = ([], 1) := by simp [cW, h2]
    rw [hr]
    go_enter Try.func28, Try.ntmps28
    go_wp2_with (go_at_call 64; with_reducible refine (isWord_b _ _ h2 _).mono ?_; rintro r w' ⟨rfl, rfl⟩)
    go_ret2
    exact ⟨rfl, by (repeat' (first | (with_reducible assumption) | (with_reducible exact Below.refl _ _) | (with_reducible refine below_sc ?_ ?_) | ((with_reducible show (_ : Nat) ≤ _); omega) | refine Below.setCell ?_ (by first | omega | (simp; done) | (simp; omega)) _ | refine Below.alloc ?_ (by first | omega | (simp; done) | (simp; omega)) _ | refine Below.drew ?_ | refine below_drewN ?_ _ | refine Below.trans ?_ (Below.mono (by assumption) (by first | omega | (simp; done) | (simp; omega)))))⟩
  cases h3 : isW p
  case false =>
    have hr : cW c x p l = ([], 1) := by simp [cW, h3]
    rw [hr]
    go_enter Try.func28, Try.ntmps28
    go_wp2_with (first | (go_at_call 64; with_reducible refine (isWord_b _ _ h2 _).mono ?_; rintro r w' ⟨rfl, rfl⟩) | (go_at_call 64; with_reducible refine (isWord_b _ _ h3 _).mono ?_; rintro r w' ⟨rfl, rfl⟩))
    go_ret2
    exact ⟨rfl, by (repeat' (first | (with_reducible assumption) | (with_reducible exact Below.refl _ _) | (with_reducible refine below_sc ?_ ?_) | ((with_reducible show (_ : Nat) ≤ _); omega) | refine Below.setCell ?_ (by first | omega | (simp; done) | (simp; omega)) _ | refine Below.alloc ?_ (by first | omega | (simp; done) | (simp; omega)) _ | refine Below.drew ?_ | refine below_drewN ?_ _ | refine Below.trans ?_ (Below.mono (by assumption) (by first | omega | (simp; done) | (simp; omega)))))⟩
  cases h4 : wh l
  case false =>
    have hr : cW c x p l = ([], 1) := by simp [cW, h4]
    rw [hr]
    go_enter Try.func28, Try.ntmps28
    go_wp2_with (first | (go_at_call 64; with_reducible refine (isWord_b _ _ h2 _).mono ?_; rintro r w' ⟨rfl, rfl⟩) | (go_at_call 64; with_reducible refine (isWord_b _ _ h3 _).mono ?_; rintro r w' ⟨rfl, rfl⟩) | (go_at_call 65; with_reducible refine (whole_b _ _ h4 _).mono ?_; rintro r w' ⟨rfl, rfl⟩))
    go_ret2
    exact ⟨rfl, by (repeat' (first | (with_reducible assumption) | (with_reducible exact Below.refl _ _) | (with_reducible refine below_sc ?_ ?_) | ((with_reducible show (_ : Nat) ≤ _); omega) | refine Below.setCell ?_ (by first | omega | (simp; done) | (simp; omega)) _ | refine Below.alloc ?_ (by first | omega | (simp; done) | (simp; omega)) _ | refine Below.drew ?_ | refine below_drewN ?_ _ | refine Below.trans ?_ (Below.mono (by assumption) (by first | omega | (simp; done) | (simp; omega)))))⟩
  by_cases h5 : l.length ≤ 4072
  case neg =>
    have hr : cW c x p l = ([], 40) := by simp [cW, h0, h1, h2, h3, h4, h5]
    rw [hr]
    go_enter Try.func28, Try.ntmps28
    go_wp2_with (first | (go_at_call 64; with_reducible refine (isWord_b _ _ h2 _).mono ?_; rintro r w' ⟨rfl, rfl⟩) | (go_at_call 64; with_reducible refine (isWord_b _ _ h3 _).mono ?_; rintro r w' ⟨rfl, rfl⟩) | (go_at_call 65; with_reducible refine (whole_b _ _ h4 _).mono ?_; rintro r w' ⟨rfl, rfl⟩))
    go_ret2
    exact ⟨rfl, by (repeat' (first | (with_reducible assumption) | (with_reducible exact Below.refl _ _) | (with_reducible refine below_sc ?_ ?_) | ((with_reducible show (_ : Nat) ≤ _); omega) | refine Below.setCell ?_ (by first | omega | (simp; done) | (simp; omega)) _ | refine Below.alloc ?_ (by first | omega | (simp; done) | (simp; omega)) _ | refine Below.drew ?_ | refine below_drewN ?_ _ | refine Below.trans ?_ (Below.mono (by assumption) (by first | omega | (simp; done) | (simp; omega)))))⟩
  have hr : cW c x p l = (wordsL [x, 0, 284, 3, c, p] ++ l, 0) := by simp [cW, h0, h1, h2, h3, h4, h5]
  rw [hr]
  go_enter Try.func28, Try.ntmps28
  go_wp2_with (first | (go_at_call 64; with_reducible refine (isWord_b _ _ h2 _).mono ?_; rintro r w' ⟨rfl, rfl⟩) | (go_at_call 64; with_reducible refine (isWord_b _ _ h3 _).mono ?_; rintro r w' ⟨rfl, rfl⟩) | (go_at_call 65; with_reducible refine (whole_b _ _ h4 _).mono ?_; rintro r w' ⟨rfl, rfl⟩) |
    (go_at_call 66; refine (words6 l x 0 284 3 c p _ _ (by simp) (by omega)).mono ?_; rintro e w1 ⟨rfl, hb1⟩; have hz1 := hb1.size; (try simp only [World.size_alloc] at hz1)))
  go_ret2
  exact ⟨rfl, by (repeat' (first | (with_reducible assumption) | (with_reducible exact Below.refl _ _) | (with_reducible refine below_sc ?_ ?_) | ((with_reducible show (_ : Nat) ≤ _); omega) | refine Below.setCell ?_ (by first | omega | (simp; done) | (simp; omega)) _ | refine Below.alloc ?_ (by first | omega | (simp; done) | (simp; omega)) _ | refine Below.drew ?_ | refine below_drewN ?_ _ | refine Below.trans ?_ (Below.mono (by assumption) (by first | omega | (simp; done) | (simp; omega)))))⟩

def cT (x e : Int) (l : List UInt8) : List UInt8 × Int := if isW x = true ∧ mayB e l = true then (wordsL [x, 1, e] ++ l, 0) else ([], 1)

set_option maxHeartbeats 4000000 in
theorem cTell_any (x e : Int) (l : List UInt8) (w : World) (hl : l.length ≤ 20000) :
    Calls Try.prog 30 #[ansV x e l] w fun r w' => r = .returned (seV (cT x e l)) ∧ Below w.heap.size w w' := by
  have hs := str_size l
  unfold ansV
  cases h2 : isW x
  case false =>
    have hr : cT x e l = ([], 1) := by simp [cT, h2]
    rw [hr]
    go_enter Try.func30, Try.ntmps30
    go_wp2_with (go_at_call 64; with_reducible refine (isWord_b _ _ h2 _).mono ?_; rintro r w' ⟨rfl, rfl⟩)
    go_ret2
    exact ⟨rfl, by (repeat' (first | (with_reducible assumption) | (with_reducible exact Below.refl _ _) | (with_reducible refine below_sc ?_ ?_) | ((with_reducible show (_ : Nat) ≤ _); omega) | refine Below.setCell ?_ (by first | omega | (simp; done) | (simp; omega)) _ | refine Below.alloc ?_ (by first | omega | (simp; done) | (simp; omega)) _ | refine Below.drew ?_ | refine below_drewN ?_ _ | refine Below.trans ?_ (Below.mono (by assumption) (by first | omega | (simp; done) | (simp; omega)))))⟩
  cases h3 : mayB e l
  case false =>
    have hr : cT x e l = ([], 1) := by simp [cT, h3]
    rw [hr]
    go_enter Try.func30, Try.ntmps30
    go_wp2_with (first | (go_at_call 64; with_reducible refine (isWord_b _ _ h2 _).mono ?_; rintro r w' ⟨rfl, rfl⟩) | (go_at_call 68; with_reducible refine (may_any _ _ _ h3 _).mono ?_; rintro r w' ⟨rfl, rfl⟩))
    go_ret2
    exact ⟨rfl, by (repeat' (first | (with_reducible assumption) | (with_reducible exact Below.refl _ _) | (with_reducible refine below_sc ?_ ?_) | ((with_reducible show (_ : Nat) ≤ _); omega) | refine Below.setCell ?_ (by first | omega | (simp; done) | (simp; omega)) _ | refine Below.alloc ?_ (by first | omega | (simp; done) | (simp; omega)) _ | refine Below.drew ?_ | refine below_drewN ?_ _ | refine Below.trans ?_ (Below.mono (by assumption) (by first | omega | (simp; done) | (simp; omega)))))⟩
  have hr : cT x e l = (wordsL [x, 1, e] ++ l, 0) := by simp [cT, h2, h3]
  rw [hr]
  go_enter Try.func30, Try.ntmps30
  go_wp2_with (first | (go_at_call 64; with_reducible refine (isWord_b _ _ h2 _).mono ?_; rintro r w' ⟨rfl, rfl⟩) | (go_at_call 68; with_reducible refine (may_any _ _ _ h3 _).mono ?_; rintro r w' ⟨rfl, rfl⟩) |
    (go_at_call 66; refine (words3 l x 1 e _ _ (by simp) (by omega)).mono ?_; rintro e w1 ⟨rfl, hb1⟩; have hz1 := hb1.size; (try simp only [World.size_alloc] at hz1)))
  go_ret2
  exact ⟨rfl, by (repeat' (first | (with_reducible assumption) | (with_reducible exact Below.refl _ _) | (with_reducible refine below_sc ?_ ?_) | ((with_reducible show (_ : Nat) ≤ _); omega) | refine Below.setCell ?_ (by first | omega | (simp; done) | (simp; omega)) _ | refine Below.alloc ?_ (by first | omega | (simp; done) | (simp; omega)) _ | refine Below.drew ?_ | refine below_drewN ?_ _ | refine Below.trans ?_ (Below.mono (by assumption) (by first | omega | (simp; done) | (simp; omega)))))⟩
end Go.Proofs.Ytaccjneglaomhaa
