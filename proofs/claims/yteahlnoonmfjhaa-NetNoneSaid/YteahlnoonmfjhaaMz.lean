/- Texts of mine in one: CallA, CallB, CallC, CallD, CallLift, RdN, CallE, CallF, CallG. No statement of its own. -/
import Derived.Test.YteahlnoonmfjhaaMx
import Derived.Test.YteahlnoonmfjhaaLiftB
import Derived.Test.YteahlnoonmfjhaaCalmW
import Derived.Deep.Slices
import Derived.Deep.Fields
import Derived.ChangeSame
import Derived.Test.YteahlnoonmfjhaaRowz
import Derived.Test.YteahlnoonmfjhaaCalmS
set_option linter.unusedVariables false
set_option maxRecDepth 100000
namespace Go.Proofs.Yteahlnoonmfjhaa
section
set_option linter.unusedVariables false
open Go.RowKit

/-- Is a number a word? -/
def isW (n : Int) : Bool := decide (0 ≤ n ∧ n ≤ 4294967295)
def wh (l : List UInt8) : Bool := decide (l.length % 4 = 0)

theorem isWord_b (n : Int) (b : Bool) (h : isW n = b) (w : World) : Calls Try.prog 106 #[.int .i64 n] w fun e w' => e = .returned (.bool b) ∧ w' = w := by
  subst h
  by_cases h0 : 0 ≤ n
  · by_cases h1 : n ≤ 4294967295
    · have h2 : isW n = true := by simp [isW, h0, h1]
      rw [h2]
      go_enter Try.func106, Try.ntmps106
      go_wp2
      go_ret
      exact ⟨rfl, rfl⟩
    · have h2 : isW n = false := by simp [isW, h1]
      rw [h2]
      go_enter Try.func106, Try.ntmps106
      go_wp2
      go_ret
      exact ⟨rfl, rfl⟩
  · have h2 : isW n = false := by simp [isW, h0]
    rw [h2]
    go_enter Try.func106, Try.ntmps106
    go_wp2
    go_ret
    exact ⟨rfl, rfl⟩

theorem whole_b (l : List UInt8) (b : Bool) (h : wh l = b) (w : World) : Calls Try.prog 107 #[.string (str l)] w fun e w' => e = .returned (.bool b) ∧ w' = w := by
  have hs := str_size l
  subst h
  by_cases h0 : l.length % 4 = 0
  · have h1 : (l.length : Int) % 4 = 0 := by omega
    have h2 : wh l = true := by simp [wh, h0]
    rw [h2]
    go_enter Try.func107, Try.ntmps107
    go_wp2
    go_ret
    exact ⟨rfl, rfl⟩
  · have h1 : ¬ (l.length : Int) % 4 = 0 := by omega
    have h2 : wh l = false := by simp [wh, h0]
    have h3 : ((l.length : Int) % 4 == 0) = false := by rw [beq_eq_false_iff_ne]; exact h1
    rw [h2]
    go_enter Try.func107, Try.ntmps107
    go_wp2
    go_ret
    exact ⟨rfl, rfl⟩

/-- Numbers as words. -/
def wordsL (ns : List Int) : List UInt8 := ns.flatMap fun n => beN (n % 4294967296) 4
theorem wordsL_length (ns : List Int) : (wordsL ns).length = 4 * ns.length := by
  induction ns with
  | nil => rfl
  | cons n ns ih => rw [wordsL, List.flatMap_cons, List.length_append, beN_length, List.length_cons]; unfold wordsL at ih; omega
theorem wordsL_take {ns : List Int} {k : Nat} (h : k < ns.length) : wordsL (ns.take (k + 1)) = wordsL (ns.take k) ++ beN (ns[k] % 4294967296) 4 := by
  rw [List.take_succ_eq_append_getElem h]
  unfold wordsL
  rw [List.flatMap_append, List.flatMap_singleton]

theorem words_any (l : List UInt8) (ns : List Int) (g c : Nat) (w : World) (hl : l.length ≤ 20000) (hn : ns.length ≤ 1000) (hg : g < w.heap.size) (hc : ∀ j (h : j < ns.length), w.cell? ⟨g, j, none⟩ = some (.int .i64 ns[j])) :
    Calls Try.prog 108 #[.string (str l), .slice (some ⟨g, 0, none⟩) ns.length c] w fun e w' => e = .returned (.string (str (wordsL ns ++ l))) ∧ Below w.heap.size w w' := by
  have hs := str_size l
  have HC := Lib.hid hc
  clear hc
  go_enter Try.func108, Try.ntmps108
  go_wp2_with fail
  go_loopw [5, 10] (fun b i wr => ∃ k : Nat, k ≤ ns.length ∧ i = .int .i64 k ∧ Hid (OwnZ wr w.heap.size 5 b (wordsL (ns.take k))) ∧ Hid (Ext w wr)) (fun _ i _ => ns.length - (intOf i).toNat)
  case atStart => exact ⟨0, by omega, rfl, OwnZ.nil, Ext.refl _⟩
  case round =>
    obtain ⟨k, hk, rfl, HO, HX⟩ := hrel
    by_cases hlt : k < ns.length
    · have hcell := (cellB HX.out g k hg).trans (HC.out k hlt)
      go_wp2_with fail
      refine (Word_any _ (wordsL (ns.take k)) (ns[k] % 4294967296) _ HO.out.rs (by omega) (by omega) (by rw [wordsL_length]; simp; omega)).mono ?_
      rintro e w1 ⟨v1, rfl, o1, b1⟩
      have o2 := (o1.mono HX.out.size).z
      rw [← wordsL_take hlt] at o2
      have H2 := Lib.hid o2
      have HX2 := Lib.hid (HX.out.trans (Ext.of b1))
      clear o1 o2 b1 hcell
      go_wp2_with fail
      go_roundw
      case rel => exact ⟨k + 1, by omega, by go_num, H2, HX2⟩
      case measure => simp [intOf]; omega
    · obtain rfl : k = ns.length := by omega
      obtain ⟨wo, rfl⟩ : ∃ wo : World, wo = wr := ⟨_, rfl⟩
      have hcv := (HO.out.rs).conv (P := Try.prog) Try.underlying47 Try.underlying5 Try.underlying9
      rw [List.take_length] at hcv
      have hsz := str_size (wordsL ns)
      rw [wordsL_length] at hsz
      go_wp2_with fail
      go_ret
      exact ⟨rfl, HX.out⟩

/-- May a reply have such an error, with such a Body? -/
def mayB (e : Int) (l : List UInt8) : Bool := if e = 0 then wh l else if e = 4 ∨ e = 62 ∨ e = 63 then l.isEmpty else false

theorem may_any (e : Int) (l : List UInt8) (b : Bool) (h : mayB e l = b) (w : World) : Calls Try.prog 111 #[.int .i64 e, .string (str l)] w fun r w' => r = .returned (.bool b) ∧ w' = w := by
  have hs := str_size l
  subst h
  by_cases e0 : e = 0
  · subst e0
    go_enter Try.func111, Try.ntmps111
    go_wp2_with (go_at_call 107; refine (whole_b l _ rfl _).mono ?_; rintro r w' ⟨rfl, rfl⟩)
    go_ret
    exact ⟨rfl, rfl⟩
  by_cases e4 : e = 4
  · subst e4
    have hl := strL l
    go_enter Try.func111, Try.ntmps111
    go_wp2
    go_ret
    exact ⟨by simp [mayB], rfl⟩
  by_cases e62 : e = 62
  · subst e62
    have hl := strL l
    go_enter Try.func111, Try.ntmps111
    go_wp2
    go_ret
    exact ⟨by simp [mayB], rfl⟩
  by_cases e63 : e = 63
  · subst e63
    have hl := strL l
    go_enter Try.func111, Try.ntmps111
    go_wp2
    go_ret
    exact ⟨by simp [mayB], rfl⟩
  have hm : mayB e l = false := by simp [mayB, e0, e4, e62, e63]
  rw [hm]
  go_enter Try.func111, Try.ntmps111
  go_wp2
  go_ret
  exact ⟨rfl, rfl⟩
end

section
set_option linter.unusedVariables false
open Go.RowKit

def headV (c x p : Int) (l : List UInt8) : Value := .agg #[.int .i64 c, .int .i64 x, .int .i64 p, .string (str l)]
def ansV (x e : Int) (l : List UInt8) : Value := .agg #[.int .i64 x, .int .i64 e, .string (str l)]
/-- A text and an error, as a function answers. -/
def seV (r : List UInt8 × Int) : Value := .tuple #[.string (str r.1), .int .i64 r.2]

theorem cells_of_ints {w : World} {g : Nat} {T : TypeId} {fr : Nat × Nat} {ns : List Int} (h : w.heap[g]? = some (.cells (ns.map (Value.int .i64)).toArray T fr)) : ∀ j (h : j < ns.length), w.cell? ⟨g, j, none⟩ = some (.int .i64 ns[j]) := by
  intro j hj
  rw [cell_of_row _ _ _ _ _ _ h]
  simp [hj]

theorem words6 (l : List UInt8) (a b c d e f : Int) (g : Nat) (w : World) (hg : g = w.heap.size) (hl : l.length ≤ 20000) :
    Calls Try.prog 108 #[.string (str l), .slice (some ⟨g, 0, none⟩) 6 6] (w.alloc (.cells #[.int .i64 a, .int .i64 b, .int .i64 c, .int .i64 d, .int .i64 e, .int .i64 f] 3)) fun r w' => r = .returned (.string (str (wordsL [a, b, c, d, e, f] ++ l))) ∧ Below w.heap.size w w' := by
  subst hg
  have h := words_any l [a, b, c, d, e, f] w.heap.size 6 (w.alloc (.cells ([a, b, c, d, e, f].map (Value.int .i64)).toArray 3)) hl (by simp) (by simp) (cells_of_ints (heap_alloc_last w _))
  exact h.mono fun _ _ ⟨h1, h2⟩ => ⟨h1, Below.trans ((Below.refl _ w).alloc (Nat.le_refl _) _) (h2.mono (by simp))⟩
theorem words3 (l : List UInt8) (a b c : Int) (g : Nat) (w : World) (hg : g = w.heap.size) (hl : l.length ≤ 20000) :
    Calls Try.prog 108 #[.string (str l), .slice (some ⟨g, 0, none⟩) 3 3] (w.alloc (.cells #[.int .i64 a, .int .i64 b, .int .i64 c] 3)) fun r w' => r = .returned (.string (str (wordsL [a, b, c] ++ l))) ∧ Below w.heap.size w w' := by
  subst hg
  have h := words_any l [a, b, c] w.heap.size 3 (w.alloc (.cells ([a, b, c].map (Value.int .i64)).toArray 3)) hl (by simp) (by simp) (cells_of_ints (heap_alloc_last w _))
  exact h.mono fun _ _ ⟨h1, h2⟩ => ⟨h1, Below.trans ((Below.refl _ w).alloc (Nat.le_refl _) _) (h2.mono (by simp))⟩

def cW (c x p : Int) (l : List UInt8) : List UInt8 × Int :=
  if 1 ≤ c ∧ c ≤ 16 ∧ isW x = true ∧ isW p = true ∧ wh l = true then if l.length ≤ 4072 then (wordsL [x, 0, 284, 3, c, p] ++ l, 0) else ([], 40) else ([], 1)

set_option maxHeartbeats 4000000 in
theorem cWrite_any (c x p : Int) (l : List UInt8) (w : World) (hl : l.length ≤ 20000) :
    Calls Try.prog 52 #[headV c x p l] w fun e w' => e = .returned (seV (cW c x p l)) ∧ Below w.heap.size w w' := by
  have hs := str_size l
  unfold headV
  by_cases h0 : 1 ≤ c
  case neg =>
    have hr : cW c x p l = ([], 1) := by simp [cW, h0]
    rw [hr]
    go_enter Try.func52, Try.ntmps52
    go_wp2
    go_ret2
    exact ⟨rfl, by (repeat' (first | (with_reducible assumption) | (with_reducible exact Below.refl _ _) | (with_reducible refine below_sc ?_ ?_) | ((with_reducible show (_ : Nat) ≤ _); omega) | refine Below.setCell ?_ (by first | omega | (simp; done) | (simp; omega)) _ | refine Below.alloc ?_ (by first | omega | (simp; done) | (simp; omega)) _ | refine Below.drew ?_ | refine below_drewN ?_ _ | refine Below.trans ?_ (Below.mono (by assumption) (by first | omega | (simp; done) | (simp; omega)))))⟩
  by_cases h1 : c ≤ 16
  case neg =>
    have hr : cW c x p l = ([], 1) := by simp [cW, h1]
    rw [hr]
    go_enter Try.func52, Try.ntmps52
    go_wp2
    go_ret2
    exact ⟨rfl, by (repeat' (first | (with_reducible assumption) | (with_reducible exact Below.refl _ _) | (with_reducible refine below_sc ?_ ?_) | ((with_reducible show (_ : Nat) ≤ _); omega) | refine Below.setCell ?_ (by first | omega | (simp; done) | (simp; omega)) _ | refine Below.alloc ?_ (by first | omega | (simp; done) | (simp; omega)) _ | refine Below.drew ?_ | refine below_drewN ?_ _ | refine Below.trans ?_ (Below.mono (by assumption) (by first | omega | (simp; done) | (simp; omega)))))⟩
  cases h2 : isW x
  case false =>
    have hr : cW c x p l = ([], 1) := by simp [cW, h2]
    rw [hr]
    go_enter Try.func52, Try.ntmps52
    go_wp2_with (go_at_call 106; with_reducible refine (isWord_b _ _ h2 _).mono ?_; rintro r w' ⟨rfl, rfl⟩)
    go_ret2
    exact ⟨rfl, by (repeat' (first | (with_reducible assumption) | (with_reducible exact Below.refl _ _) | (with_reducible refine below_sc ?_ ?_) | ((with_reducible show (_ : Nat) ≤ _); omega) | refine Below.setCell ?_ (by first | omega | (simp; done) | (simp; omega)) _ | refine Below.alloc ?_ (by first | omega | (simp; done) | (simp; omega)) _ | refine Below.drew ?_ | refine below_drewN ?_ _ | refine Below.trans ?_ (Below.mono (by assumption) (by first | omega | (simp; done) | (simp; omega)))))⟩
  cases h3 : isW p
  case false =>
    have hr : cW c x p l = ([], 1) := by simp [cW, h3]
    rw [hr]
    go_enter Try.func52, Try.ntmps52
    go_wp2_with (first | (go_at_call 106; with_reducible refine (isWord_b _ _ h2 _).mono ?_; rintro r w' ⟨rfl, rfl⟩) | (go_at_call 106; with_reducible refine (isWord_b _ _ h3 _).mono ?_; rintro r w' ⟨rfl, rfl⟩))
    go_ret2
    exact ⟨rfl, by (repeat' (first | (with_reducible assumption) | (with_reducible exact Below.refl _ _) | (with_reducible refine below_sc ?_ ?_) | ((with_reducible show (_ : Nat) ≤ _); omega) | refine Below.setCell ?_ (by first | omega | (simp; done) | (simp; omega)) _ | refine Below.alloc ?_ (by first | omega | (simp; done) | (simp; omega)) _ | refine Below.drew ?_ | refine below_drewN ?_ _ | refine Below.trans ?_ (Below.mono (by assumption) (by first | omega | (simp; done) | (simp; omega)))))⟩
  cases h4 : wh l
  case false =>
    have hr : cW c x p l = ([], 1) := by simp [cW, h4]
    rw [hr]
    go_enter Try.func52, Try.ntmps52
    go_wp2_with (first | (go_at_call 106; with_reducible refine (isWord_b _ _ h2 _).mono ?_; rintro r w' ⟨rfl, rfl⟩) | (go_at_call 106; with_reducible refine (isWord_b _ _ h3 _).mono ?_; rintro r w' ⟨rfl, rfl⟩) | (go_at_call 107; with_reducible refine (whole_b _ _ h4 _).mono ?_; rintro r w' ⟨rfl, rfl⟩))
    go_ret2
    exact ⟨rfl, by (repeat' (first | (with_reducible assumption) | (with_reducible exact Below.refl _ _) | (with_reducible refine below_sc ?_ ?_) | ((with_reducible show (_ : Nat) ≤ _); omega) | refine Below.setCell ?_ (by first | omega | (simp; done) | (simp; omega)) _ | refine Below.alloc ?_ (by first | omega | (simp; done) | (simp; omega)) _ | refine Below.drew ?_ | refine below_drewN ?_ _ | refine Below.trans ?_ (Below.mono (by assumption) (by first | omega | (simp; done) | (simp; omega)))))⟩
  by_cases h5 : l.length ≤ 4072
  case neg =>
    have hr : cW c x p l = ([], 40) := by simp [cW, h0, h1, h2, h3, h4, h5]
    rw [hr]
    go_enter Try.func52, Try.ntmps52
    go_wp2_with (first | (go_at_call 106; with_reducible refine (isWord_b _ _ h2 _).mono ?_; rintro r w' ⟨rfl, rfl⟩) | (go_at_call 106; with_reducible refine (isWord_b _ _ h3 _).mono ?_; rintro r w' ⟨rfl, rfl⟩) | (go_at_call 107; with_reducible refine (whole_b _ _ h4 _).mono ?_; rintro r w' ⟨rfl, rfl⟩))
    go_ret2
    exact ⟨rfl, by (repeat' (first | (with_reducible assumption) | (with_reducible exact Below.refl _ _) | (with_reducible refine below_sc ?_ ?_) | ((with_reducible show (_ : Nat) ≤ _); omega) | refine Below.setCell ?_ (by first | omega | (simp; done) | (simp; omega)) _ | refine Below.alloc ?_ (by first | omega | (simp; done) | (simp; omega)) _ | refine Below.drew ?_ | refine below_drewN ?_ _ | refine Below.trans ?_ (Below.mono (by assumption) (by first | omega | (simp; done) | (simp; omega)))))⟩
  have hr : cW c x p l = (wordsL [x, 0, 284, 3, c, p] ++ l, 0) := by simp [cW, h0, h1, h2, h3, h4, h5]
  rw [hr]
  go_enter Try.func52, Try.ntmps52
  go_wp2_with (first | (go_at_call 106; with_reducible refine (isWord_b _ _ h2 _).mono ?_; rintro r w' ⟨rfl, rfl⟩) | (go_at_call 106; with_reducible refine (isWord_b _ _ h3 _).mono ?_; rintro r w' ⟨rfl, rfl⟩) | (go_at_call 107; with_reducible refine (whole_b _ _ h4 _).mono ?_; rintro r w' ⟨rfl, rfl⟩) |
    (go_at_call 108; refine (words6 l x 0 284 3 c p _ _ (by simp) (by omega)).mono ?_; rintro e w1 ⟨rfl, hb1⟩; have hz1 := hb1.size; (try simp only [World.size_alloc] at hz1)))
  go_ret2
  exact ⟨rfl, by (repeat' (first | (with_reducible assumption) | (with_reducible exact Below.refl _ _) | (with_reducible refine below_sc ?_ ?_) | ((with_reducible show (_ : Nat) ≤ _); omega) | refine Below.setCell ?_ (by first | omega | (simp; done) | (simp; omega)) _ | refine Below.alloc ?_ (by first | omega | (simp; done) | (simp; omega)) _ | refine Below.drew ?_ | refine below_drewN ?_ _ | refine Below.trans ?_ (Below.mono (by assumption) (by first | omega | (simp; done) | (simp; omega)))))⟩

def cT (x e : Int) (l : List UInt8) : List UInt8 × Int := if isW x = true ∧ mayB e l = true then (wordsL [x, 1, e] ++ l, 0) else ([], 1)

end

section
set_option linter.unusedVariables false
open Go.RowKit

end

section
set_option linter.unusedVariables false
open Go.RowKit

end

section
set_option linter.unusedVariables false
open Go.RowKit Go.ChangeShapes Go.WideShapes Go.ChangeAt Go.Deep
structure HeadT where
  c : Int
  x : Int
  p : Int
  l : List UInt8
def HeadT.v (h : HeadT) : Value := headV h.c h.x h.p h.l
structure HeadT.Ok (h : HeadT) : Prop where
  c : (Lit.int .i64 h.c).wf = true
  x : (Lit.int .i64 h.x).wf = true
  p : (Lit.int .i64 h.p).wf = true
  l : h.l.length ≤ maxLen
structure AnsT where
  x : Int
  e : Int
  l : List UInt8
def AnsT.v (h : AnsT) : Value := ansV h.x h.e h.l
structure AnsT.Ok (h : AnsT) : Prop where
  x : (Lit.int .i64 h.x).wf = true
  e : (Lit.int .i64 h.e).wf = true
  l : h.l.length ≤ maxLen
section
variable {H : Type} {enc : TypeId × Value → H} {W : World} {base : Nat} {b0 : Nat} {spare : Nat → Bool} {held : Bool}
end
end

section
set_option linter.unusedVariables false
open Go.RowKit

/-- A reader in block g, not bad; it and its bytes lie in blocks from B on. -/
def Rdo (T : TypeId) (w : World) (B g : Nat) (l : List UInt8) : Prop := ∃ v, w.heap[g]? = some (.cells #[v, .bool false] T (0, 0)) ∧ OwnZ w B 5 v l ∧ B ≤ g
theorem Rdo.rd {T : TypeId} {w : World} {B g : Nat} {l : List UInt8} (h : Rdo T w B g l) : Rd T w g (some l) := by
  obtain ⟨v, hg, ho, _⟩ := h
  obtain ⟨A, c, rfl⟩ := ho.rs.form
  exact ⟨A, c, hg, ho.rs⟩
theorem OwnZ.but {w w' : World} {B g : Nat} {T : TypeId} {v : Value} {l : List UInt8} (h : OwnZ w B T v l) (k : But g w w') (hg : g < B) : OwnZ w' B T v l := by
  rcases h with h | ⟨c, g', junk, rfl, hB, hh, hc⟩
  · exact .inl h
  · exact .inr ⟨c, g', junk, rfl, hB, (k.block g' (Array.getElem?_eq_some_iff.1 hh).1 (by simp; omega)).trans hh, hc⟩
theorem Rdo.but {T : TypeId} {w w' : World} {B g g' : Nat} {l : List UInt8} (h : Rdo T w B g l) (k : But g' w w') (hg : g' < B) : Rdo T w' B g l := by
  obtain ⟨v, hh, ho, hB⟩ := h
  exact ⟨v, (k.block g (Array.getElem?_eq_some_iff.1 hh).1 (by simp; omega)).trans hh, ho.but k hg, hB⟩
theorem Rdo.ext {T : TypeId} {w w' : World} {B g : Nat} {l : List UInt8} (h : Rdo T w B g l) (k : Ext w w') : Rdo T w' B g l := by
  obtain ⟨v, hh, ho, hB⟩ := h
  exact ⟨v, (k.block g (Array.getElem?_eq_some_iff.1 hh).1).trans hh, ho.ext k, hB⟩
theorem Rdo.mono {T : TypeId} {w : World} {B B' g : Nat} {l : List UInt8} (h : Rdo T w B g l) (k : B' ≤ B) : Rdo T w B' g l := by
  obtain ⟨v, hh, ho, hB⟩ := h
  exact ⟨v, hh, ho.mono k, by omega⟩

theorem newReader_o (v : Value) (l : List UInt8) (w : World) (hv : RS w v l) (h : l.length ≤ 900000) :
    Calls Try.prog 72 #[v] w fun e w' => ∃ g, e = .returned (.pointer (some ⟨g, 0, none⟩)) ∧ Rdo 192 w' w.heap.size g l ∧ Below w.heap.size w w' := by
  go_enter Try.func72, Try.ntmps72
  go_wp2_with fail
  refine (clone_any v l w hv h).mono ?_
  rintro e w1 ⟨v1, rfl, o1, b1⟩
  obtain ⟨A, c, rfl⟩ := o1.rs.form
  go_wp2_with fail
  go_ret
  exact ⟨_, rfl, ⟨_, heap_alloc_last _ _, o1.ext (ext_alloc _ _), b1.size⟩, Below.trans b1 ((ext_alloc w1 _ : Ext _ _).mono b1.size)⟩

theorem rnewReader_o (v : Value) (l : List UInt8) (w : World) (hv : RS w v l) (h : l.length ≤ 900000) :
    Calls Try.prog 76 #[v] w fun e w' => ∃ g, e = .returned (.pointer (some ⟨g, 0, none⟩)) ∧ Rdo 196 w' w.heap.size g l ∧ Below w.heap.size w w' := by
  obtain ⟨A, c, rfl⟩ := hv.form
  obtain ⟨v0, w0, hr0, ho0, hb0⟩ := appZ (ty := 47) (own_none (w := w) (T := 5)).z (srcS (hv.ext (ext_alloc w _))) (by simp) (by simp; omega)
  have hx0 : Ext w w0 := Below.trans (ext_alloc w _) hb0
  rw [List.nil_append] at ho0
  obtain ⟨A0, c0, rfl⟩ := ho0.rs.form
  go_enter Try.func76, Try.ntmps76
  go_wp2_with (at_builtin; refine wpList_app rfl _ _ _ _ rfl hr0 ?_)
  go_ret
  exact ⟨_, rfl, ⟨_, heap_alloc_last _ _, ho0.ext (ext_alloc _ _), hx0.size⟩, Below.trans hx0 ((ext_alloc w0 _ : Ext _ _).mono hx0.size)⟩

/-- A contract that leaves the world alone, as one that only adds to memory. -/
theorem same_ext {P : Program} {f : FuncId} {args : Array Value} {w : World} {v : Value} (h : Calls P f args w fun e w' => e = .returned v ∧ w' = w) : Calls P f args w fun e w' => e = .returned v ∧ Below w.heap.size w w' :=
  h.mono fun _ _ ⟨h1, h2⟩ => ⟨h1, by subst h2; exact Below.refl _ _⟩

/-- A slice of structs of a byte and an int. -/
def SS (w : World) (v : Value) (l : List (Int × Int)) : Prop :=
  (v = .slice none 0 0 ∧ l = []) ∨ ∃ b off c, v = .slice (some ⟨b, off, none⟩) l.length c ∧ b < w.heap.size ∧ l.length ≤ c ∧
    ∀ j (h : j < l.length), w.cell? ⟨b, off + j * 2, none⟩ = some (.int .u8 l[j].1) ∧ w.cell? ⟨b, off + j * 2 + 1, none⟩ = some (.int .i64 l[j].2)
theorem SS.form {w : World} {v : Value} {l : List (Int × Int)} (h : SS w v l) : ∃ A c, v = .slice A l.length c := by
  rcases h with ⟨rfl, rfl⟩ | ⟨b, off, c, rfl, _⟩
  · exact ⟨none, 0, rfl⟩
  · exact ⟨_, c, rfl⟩
theorem SS.below {w w' : World} {B : Nat} {v : Value} {l : List (Int × Int)} (h : SS w v l) (hB : w.heap.size ≤ B) (k : Below B w w') : SS w' v l := by
  rcases h with h | ⟨b, off, c, rfl, hb, hc, hj⟩
  · exact .inl h
  · exact .inr ⟨b, off, c, rfl, Nat.lt_of_lt_of_le hb k.size, hc, fun j h => ⟨(k.cell (p := ⟨b, off + j * 2, none⟩) (show b < B by omega)).trans (hj j h).1, (k.cell (p := ⟨b, off + j * 2 + 1, none⟩) (show b < B by omega)).trans (hj j h).2⟩⟩
theorem SS.some_of {w : World} {A : Option Addr} {n c : Nat} {l : List (Int × Int)} (h : SS w (.slice A n c) l) (hl : 0 < l.length) : ∃ b off, A = some ⟨b, off, none⟩ ∧ n = l.length ∧ b < w.heap.size ∧ n ≤ c ∧
    ∀ j (h : j < l.length), w.cell? ⟨b, off + j * 2, none⟩ = some (.int .u8 l[j].1) ∧ w.cell? ⟨b, off + j * 2 + 1, none⟩ = some (.int .i64 l[j].2) := by
  rcases h with ⟨_, h⟩ | ⟨b, off, c', h, hb, hc, hj⟩
  · subst h; simp at hl
  · simp only [Value.slice.injEq] at h
    obtain ⟨rfl, rfl, rfl⟩ := h
    exact ⟨b, off, rfl, rfl, hb, hc, hj⟩

structure StepsT where
  v : Value
  l : List (Int × Int)
structure StepsT.Ok (w : World) (x : StepsT) : Prop where
  ss : SS w x.v x.l
  len : x.l.length ≤ maxLen
open Go.RowKit Go.ChangeShapes Go.WideShapes Go.ChangeAt Go.Deep
section
variable {H : Type} {enc : TypeId × Value → H} {P : Program} {w : World} {base : Nat} {spare : Nat → Bool} {held : Bool}
theorem copen_slice_fields {t e : TypeId} {fs : Array Field} {fuel : Nat} {cs : List Value} {x : DataW H × List MemPlace} (ht : P.underlying t = some (.slice e)) (he : P.underlying e = some (.struct fs))
    (hone : oneCellFields P fs = true) (hC : P.cellsOf e = fs.size) (h : DataW.trod enc P w base spare held fuel t cs = some x) :
    (cs = [.slice none 0 0] ∧ x = (.nil, [])) ∨
    ∃ (a : Addr) (len cap m : Nat) (D : Nat → DataW H) (Pl : Nat → List MemPlace), cs = [.slice (some a) len cap] ∧ base ≤ a.block ∧ len ≤ cap ∧ cap ≤ maxLen ∧ m = (if spare a.block then cap else len) ∧
      x = (.slice ((List.range len).map D) ((List.range (m - len)).map fun j => D (len + j)), MemPlace.row a (m * fs.size) ++ (List.range m).flatMap Pl) ∧
      ∀ i, i < m → ∃ (ys : List (DataW H × List MemPlace)) (n : Nat), D i = .agg (ys.map (·.1)) ∧ Pl i = ys.flatMap (·.2) ∧ ys.length = fs.size ∧
        ∀ (j : Nat) (f : Field), fs[j]? = some f → ∃ (v : Value) (y : DataW H × List MemPlace), w.cell? (a.add (i * fs.size + j)) = some v ∧ ys[j]? = some y ∧ DataW.trod enc P w base spare held n f.type [v] = some y := by
  rcases open_slice ht h with h0 | ⟨a, len, cap, m, n, D, Pl, hcs, hb, hl, hm, hmm, hx, hi⟩
  · exact .inl h0
  · refine .inr ⟨a, len, cap, m, D, Pl, hcs, hb, hl, hm, hmm, by rw [hC] at hx; exact hx, fun i him => ?_⟩
    obtain ⟨cs', hc, ht'⟩ := hi i him
    rw [hC] at hc
    obtain ⟨ys, n', hn', hy, hlen, hyl, hf⟩ := DataW.trod_struct he ht'
    obtain ⟨_, hcl, hat⟩ := World.cells?_some hc
    simp only [Prod.mk.injEq] at hy
    refine ⟨ys, n', hy.1, hy.2, hyl, fun j f hj => ?_⟩
    obtain ⟨ho, hk⟩ := hone_of hone j f hj
    have hjl : j < fs.size := (Array.getElem?_eq_some_iff.1 hj).1
    have hcell := hat j hjl
    have hv : cs'[j]? = some (cs'[j]'(by omega)) := List.getElem?_eq_getElem (by omega)
    have h1 := hf j f hj
    rw [ho, hk] at h1
    have hone' : (cs'.drop j).take 1 = [cs'[j]'(by omega)] := by
      rw [List.drop_eq_getElem_cons (by omega)]
      rfl
    rw [hone'] at h1
    have hys : ys[j]? = some (ys[j]'(by omega)) := List.getElem?_eq_getElem (by omega)
    refine ⟨_, _, ?_, hys, h1.trans hys⟩
    rw [← Go.Deep.add_add, hcell, hv]
end
section
variable {H : Type} {enc : TypeId × Value → H} {P : Program} {W : World} {base : Nat} {b0 : Nat} {spare : Nat → Bool} {held : Bool}
theorem open_steps {t e tk tn : TypeId} {f0 f1 : Field} {v : Value} {d : DataW H} {p : List MemPlace} {r : Reach} (ht : P.underlying t = some (.slice e)) (he : P.underlying e = some (.struct #[f0, f1])) (h0 : f0.type = tk) (h1 : f1.type = tn)
    (hk : P.underlying tk = some (.int .u8)) (hn : P.underlying tn = some (.int .i64)) (hone : oneCellFields P #[f0, f1] = true) (hC : P.cellsOf e = 2)
    (hv : Value.okWide P W r b0 t v) (h : DataW.Trod enc P W base spare held t v d p) : ∃ x : StepsT, v = x.v ∧ x.Ok W := by
  subst h0 h1
  obtain ⟨a0, len, cap, rfl⟩ := okWide_slice ht hv
  obtain ⟨m, hm⟩ := h
  rcases copen_slice_fields ht he hone hC hm with ⟨e0, _⟩ | ⟨a, len', cap', m', D, Pl, e0, hb, hl, hcap, hz, _, hi⟩
  · obtain ⟨rfl, rfl, rfl⟩ : a0 = none ∧ len = 0 ∧ cap = 0 := by simpa [Value.cells] using e0
    exact ⟨⟨_, []⟩, rfl, .inl ⟨rfl, rfl⟩, Nat.zero_le _⟩
  · obtain ⟨rfl, rfl, rfl⟩ : a0 = some a ∧ len = len' ∧ cap = cap' := by simpa [Value.cells] using e0
    obtain ⟨hs, hlt⟩ := has_slice ht hv
    obtain ⟨b, off, spot⟩ := a
    simp only at hs
    subst hs
    have key : ∀ i, i < len → ∃ q : Int × Int, W.cell? ⟨b, off + i * 2, none⟩ = some (.int .u8 q.1) ∧ W.cell? ⟨b, off + i * 2 + 1, none⟩ = some (.int .i64 q.2) := by
      intro i hil
      obtain ⟨ys, n, _, _, _, hf⟩ := hi i (by rw [hz]; split <;> omega)
      obtain ⟨v0, y0, hc0, _, t0⟩ := hf 0 f0 rfl
      obtain ⟨v1, y1, hc1, _, t1⟩ := hf 1 f1 rfl
      obtain ⟨x0, e0, _, _⟩ := DataW.trod_int hk t0
      obtain ⟨x1, e1, _, _⟩ := DataW.trod_int hn t1
      simp at e0 e1
      subst e0 e1
      refine ⟨(x0, x1), ?_, ?_⟩
      · rw [← hc0, Addr.add_lit]; rfl
      · rw [← hc1, Addr.add_lit]; rfl
    let q : Nat → Int × Int := fun i => if h : i < len then (key i h).choose else (0, 0)
    have hq : ∀ i, i < len → W.cell? ⟨b, off + i * 2, none⟩ = some (.int .u8 (q i).1) ∧ W.cell? ⟨b, off + i * 2 + 1, none⟩ = some (.int .i64 (q i).2) := by
      intro i hil
      have := (key i hil).choose_spec
      simp only [q, dif_pos hil]
      exact this
    refine ⟨⟨_, (List.range len).map q⟩, rfl, .inr ⟨b, off, cap, by simp, hlt, by simp; omega, fun j hj => ?_⟩, by simp; omega⟩
    simp only [List.length_map, List.length_range] at hj
    simpa using hq j hj
end
end

section
set_option linter.unusedVariables false
open Go.RowKit

/-- Word number i of a text. -/
def wv (s : List UInt8) (i : Nat) : Int := beV ((s.drop (4 * i)).take 4)
theorem wv_bd (s : List UInt8) (i : Nat) : 0 ≤ wv s i ∧ wv s i ≤ 4294967295 := by
  have h := beV_bd ((s.drop (4 * i)).take 4)
  have hl : ((s.drop (4 * i)).take 4).length ≤ 4 := by simp; omega
  unfold wv
  match hk : ((s.drop (4 * i)).take 4).length, hl with
  | 0, _ => rw [hk] at h; omega
  | 1, _ => rw [hk] at h; omega
  | 2, _ => rw [hk] at h; omega
  | 3, _ => rw [hk] at h; omega
  | 4, _ => rw [hk] at h; omega
/-- What a reader of the first n bytes still has, behind i words. -/
def rst (s : List UInt8) (n i : Nat) : St := some ((s.take n).drop (4 * i))
theorem rst_zero (s : List UInt8) (n : Nat) : rst s n 0 = some (s.take n) := by simp [rst]
theorem rdW_rst {s : List UInt8} {n i : Nat} (h1 : 4 * (i + 1) ≤ n) (h2 : n ≤ s.length) : rdW (rst s n i) = (wv s i, rst s n (i + 1)) := by
  have hl : 4 ≤ ((s.take n).drop (4 * i)).length := by simp; omega
  simp only [rst, rdW, if_pos hl, wv, List.drop_drop, Prod.mk.injEq, Option.some.injEq]
  refine ⟨?_, by rw [show 4 * i + 4 = 4 * (i + 1) by omega]⟩
  rw [List.drop_take, List.take_take, show min 4 (n - 4 * i) = 4 by omega]
theorem word_at (g : Nat) (s : List UInt8) (n i : Nat) (w : World) (h : Rd 192 w g (rst s n i)) (h1 : 4 * (i + 1) ≤ n) (h2 : n ≤ s.length) :
    Calls Try.prog 94 #[.pointer (some ⟨g, 0, none⟩)] w fun e w' => e = .returned (.int .u32 (wv s i)) ∧ Rd 192 w' g (rst s n (i + 1)) ∧ But g w w' := by
  have := word_any g _ w h
  rw [rdW_rst h1 h2] at this
  exact this
theorem rword_at (g : Nat) (s : List UInt8) (n i : Nat) (w : World) (h : Rd 196 w g (rst s n i)) (h1 : 4 * (i + 1) ≤ n) (h2 : n ≤ s.length) :
    Calls Try.prog 90 #[.pointer (some ⟨g, 0, none⟩)] w fun e w' => e = .returned (.int .u32 (wv s i)) ∧ Rd 196 w' g (rst s n (i + 1)) ∧ But g w w' := by
  have := rword_any g _ w h
  rw [rdW_rst h1 h2] at this
  exact this

/-- What a text is as a call. -/
def cR (s : List UInt8) : HeadT × Int :=
  if s.length ≤ 4096 ∧ wh s = true ∧ 24 ≤ s.length ∧ wv s 1 = 0 ∧ 1 ≤ wv s 4 ∧ wv s 4 ≤ 16 then
    if wv s 2 = 284 ∧ wv s 3 = 3 then
      if wv s 5 < 19 then (⟨wv s 4, wv s 0, wv s 5, s.drop 24⟩, 0) else (⟨wv s 4, wv s 0, wv s 5, []⟩, 62)
    else (⟨wv s 4, wv s 0, wv s 5, []⟩, 63)
  else (⟨0, 0, 0, []⟩, 4)
def heV (r : HeadT × Int) : Value := .tuple #[r.1.v, .int .i64 r.2]

/-- A block of four cells. -/
theorem cblk4 {w : World} {g : Nat} {T : TypeId} {a b c d : Value} (h : w.heap[g]? = some (.cells #[a, b, c, d] T (0, 0))) :
    w.cell? ⟨g, 0, none⟩ = some a ∧ w.cell? ⟨g, 1, none⟩ = some b ∧ w.cell? ⟨g, 2, none⟩ = some c ∧ w.cell? ⟨g, 3, none⟩ = some d ∧ w.frozen? ⟨g, 0, none⟩ = false ∧ w.frozen? ⟨g, 1, none⟩ = false ∧ w.frozen? ⟨g, 2, none⟩ = false ∧ w.frozen? ⟨g, 3, none⟩ = false ∧ g < w.heap.size :=
  ⟨by simp [World.cell?, h], by simp [World.cell?, h], by simp [World.cell?, h], by simp [World.cell?, h], by simp [World.frozen?, h], by simp [World.frozen?, h], by simp [World.frozen?, h], by simp [World.frozen?, h], (Array.getElem?_eq_some_iff.1 h).1⟩

theorem cconv_str (w : World) (l : List UInt8) : ∃ v' w', (convert 9 47 (.string (str l))).run Try.prog w = .ok v' w' ∧ RS w' v' l ∧ Ext w w' := by
  refine ⟨_, _, bytes_of w l Try.underlying9 Try.underlying47 Try.underlying5, ?_, (Below.refl _ w).drew.alloc (Nat.le_refl _) _⟩
  exact rs_block (m := l ++ List.replicate (grownCap w l.length 0 5 - l.length) 0) (off := 0) (heap_alloc_last w.drew _) (by simp) (grownCap_ge w l.length 0 5)

end

section
set_option linter.unusedVariables false
open Go.RowKit

theorem Rd.grown {T : TypeId} {w w' : World} {g : Nat} {gb : Option Nat} {s : St} (h : Rd T w g s) (k : w.grownBy w' gb) (hne : some g ≠ gb) (hn : ∀ b o u, gb = some b → w.cell? ⟨b, o, none⟩ = some u → NoB u) : Rd T w' g s := by
  have hl := h.lt
  obtain ⟨A, c, hg, hr⟩ := h
  exact ⟨A, c, (k.block g hl hne).trans hg, hr.grown k hn⟩
theorem OwnR.ne {w : World} {B : Nat} {T : TypeId} {sz : Nat} {C : Value → Prop} {v : Value} {n : Nat} {cs : List Value} {g : Nat} (h : OwnR w B T sz C v n cs) (hg : g < B) : some g ≠ v.ownBlock := by
  intro he
  obtain ⟨_, ⟨rfl, rfl⟩ | ⟨g', c, junk, rfl, hB, _, _⟩⟩ := h
  · simp [Value.ownBlock] at he
  · have : g = g' := by simpa [Value.ownBlock] using he
    omega
theorem nob_int (n : Int) : NoB (.int .i64 n) := by intro x h; simp [bv] at h
theorem nob_ints (l : List Int) : ∀ u ∈ l.map (Value.int .i64), NoB u := by
  intro u hu
  obtain ⟨n, _, rfl⟩ := List.mem_map.1 hu
  exact nob_int n
theorem one_ints (l : List Int) : ∀ u ∈ l.map (Value.int .i64), u.oneCell' = true := by
  intro u hu
  obtain ⟨n, _, rfl⟩ := List.mem_map.1 hu
  rfl
theorem appI {w : World} {B : Nat} {v x : Value} {n m : Nat} {cs new : List Value} {tx ty : TypeId} (ho : OwnR w B 3 1 NoB v n cs) (hs : Src Try.prog 1 tx x m new w) (hB : B ≤ w.heap.size) (hCn : ∀ u ∈ new, NoB u) (hc : n + m ≤ 100000000) :
    ∃ v' w', (Builtin.append_ #[52, tx] ty #[v, x]).run Try.prog w = .ok v' w' ∧ OwnR w' B 3 1 NoB v' (n + m) (cs ++ new) ∧ Below B w w' ∧ w.grownBy w' v.ownBlock := by
  have h : (Try.prog.info? 3).map (fun i => (i.zero, i.size, i.bytes)) = some (some (.int .i64 0), 1, 8) := by kernel_rfl
  obtain ⟨i, hi, hz0, hz1, hz2⟩ := info_parts h
  exact appG Try.underlying52 hi hz1 hz0 rfl ho hs hB (by omega) hCn (by intro u hu; simp [Value.cells] at hu; subst hu; exact nob_int 0) (by rw [hz2]; omega) (by omega)
theorem int_src {w : World} {g n c : Nat} {T : TypeId} {fr : Nat × Nat} {l : List Int} (hg : w.heap[g]? = some (.cells (l.map (Value.int .i64)).toArray T fr)) (hl : l.length = n) : Src Try.prog 1 52 (.slice (some ⟨g, 0, none⟩) n c) n (l.map (Value.int .i64)) w :=
  src_row Try.underlying52 hg (by simpa using hl) (one_ints l)

/-- The first k words of a text. -/
def wvs (s : List UInt8) (k : Nat) : List Int := (List.range k).map (wv s)
theorem wvs_succ (s : List UInt8) (k : Nat) : wvs s (k + 1) = wvs s k ++ [wv s k] := by simp [wvs, List.range_succ]
def InL (s : List UInt8) (n : Nat) (w0 : World) (g B : Nat) (v : Value) (k : Nat) (wr : World) : Prop := OwnR wr B 3 1 NoB v k ((wvs s k).map (Value.int .i64)) ∧ Rd 196 wr g (rst s n k) ∧ Below g w0 wr ∧ B ≤ wr.heap.size

end

section
set_option linter.unusedVariables false
open Go.RowKit

theorem cst_struct {P : Program} {w : World} {g : Nat} {T : TypeId} {old cs : Array Value} (hg : w.heap[g]? = some (.cells old T (0, 0))) (hi : (P.info? T).map (·.size) = some cs.size) (ho : old.size = cs.size) (h1 : cs.all (·.oneCell') = true) :
    ∃ wd, (Instr.storeAt T (.pointer (some ⟨g, 0, none⟩)) (.agg cs)).run P w = .ok () wd ∧ wd.heap[g]? = some (.cells cs T (0, 0)) ∧ But g w wd :=
  ⟨_, storeAt_row hg hi ho h1, setRow_heap _ _ _ _ _ _ hg, rfl, rfl, rfl, by simp [World.setRow], fun i _ hne => setRow_other w g i _ (by simpa using hne)⟩

theorem sc_same {w : World} {g i : Nat} {T : TypeId} {cs : Array Value} (v : Value) (h : w.heap[g]? = some (.cells cs T (0, 0))) : (w.setCell ⟨g, i, none⟩ v).heap[g]? = some (.cells (cs.setIfInBounds i v) T (0, 0)) := by
  rw [setCell_eq_setRow _ g i _ _ _ _ h]; exact setRow_heap _ _ _ _ _ _ h
theorem sc_other {w : World} {g g' i : Nat} {T : TypeId} {cs : Array Value} {o : Option Obj} (v : Value) (h : w.heap[g]? = some (.cells cs T (0, 0))) (hne : g' ≠ g) (ho : w.heap[g']? = o) : (w.setCell ⟨g, i, none⟩ v).heap[g']? = o := by
  rw [setCell_eq_setRow _ g i _ _ _ _ h, setRow_other w g g' _ hne]; exact ho
theorem sc_size {w : World} {p : Addr} {v : Value} : (w.setCell p v).heap.size = w.heap.size := by
  unfold World.setCell; split <;> simp

/-- What a text is as an answer. -/
def cH (s : List UInt8) : AnsT × Int :=
  if 12 ≤ s.length ∧ wv s 1 = 1 ∧ mayB (wv s 2) (s.drop 12) = true then (⟨wv s 0, wv s 2, s.drop 12⟩, 0) else (⟨0, 0, []⟩, 4)
def aeV (r : AnsT × Int) : Value := .tuple #[r.1.v, .int .i64 r.2]

set_option maxHeartbeats 8000000 in
set_option maxRecDepth 100000 in
theorem cHear_any (s : List UInt8) (w : World) (hl : s.length ≤ 20000) :
    Calls Try.prog 55 #[.string (str s)] w fun e w' => e = .returned (aeV (cH s)) ∧ Below w.heap.size w w' := by
  have hs := str_size s
  have hz : aeV (⟨0, 0, []⟩, 4) = .tuple #[.agg #[.int .i64 0, .int .i64 0, .string ⟨#[]⟩], .int .i64 4] := rfl
  by_cases h5 : 12 ≤ s.length
  case neg =>
    rw [show cH s = (⟨0, 0, []⟩, 4) by simp [cH, h5], hz]
    go_enter Try.func55, Try.ntmps55
    go_wp2
    exact bodyPost_ret (by simp only [results, Try.results55]; go_simp) rfl ⟨rfl, by (repeat' (first | (with_reducible assumption) | (with_reducible exact Below.refl _ _) | (with_reducible refine below_sc ?_ ?_) | ((with_reducible show (_ : Nat) ≤ _); omega) | refine Below.setCell ?_ (by first | omega | (simp; done) | (simp; omega)) _ | refine Below.alloc ?_ (by first | omega | (simp; done) | (simp; omega)) _ | refine Below.drew ?_ | refine below_drewN ?_ _ | refine Below.trans ?_ (Below.mono (by assumption) (by first | omega | (simp; done) | (simp; omega)))))⟩
  clear hz
  have fin : ∀ v : AnsT × Int, cH s = v → aeV (cH s) = aeV v := fun v h => by rw [h]
  have FIN := Lib.hid fin
  clear fin
  have hx : (str s).extract 0 12 = str (s.take 12) := by rw [str_extract]; simp
  have hx2 : (str s).extract 12 s.length = str (s.drop 12) := by rw [str_extract, List.take_of_length_le (by simp)]
  have b0 := wv_bd s 0
  have b1 := wv_bd s 1
  have b2 := wv_bd s 2
  obtain ⟨vs, wb, hcv, hrs, hxb⟩ := cconv_str (w.alloc (.cells #[.int .i64 0, .int .i64 0, .string ⟨#[]⟩] 121)) (s.take 12)
  go_enter Try.func55, Try.ntmps55
  go_wp2_with fail
  refine (newReader_o vs (s.take 12) wb hrs (by simp; omega)).mono ?_
  rintro e y0 ⟨g, rfl, o0, k0⟩
  have r0 := o0.rd
  rw [← rst_zero] at r0
  have hgl := r0.lt
  have hy0 : Ext (w.alloc (.cells #[.int .i64 0, .int .i64 0, .string ⟨#[]⟩] 121)) y0 := hxb.trans k0
  have hgb : w.heap.size + 1 ≤ g := by
    obtain ⟨_, _, _, h⟩ := o0
    have := hxb.size
    simp at this
    omega
  clear hcv
  go_wp2_with fail
  refine (word_at g s 12 0 _ r0 (by omega) h5).mono ?_
  rintro e y1 ⟨rfl, r1, j1⟩
  go_wp2_with fail
  refine (word_at g s 12 1 _ r1 (by omega) h5).mono ?_
  rintro e y2 ⟨rfl, r2, j2⟩
  have hyy : Mut (fun i => i = g) (w.alloc (.cells #[.int .i64 0, .int .i64 0, .string ⟨#[]⟩] 121)) y2 := (Mut.of_ext hy0).trans ((Mut.of_grown j1 (fun b hb => by simpa using hb.symm)).trans (Mut.of_grown j2 (fun b hb => by simpa using hb.symm)))
  go_wp2_with fail
  refine wp_region_piecesA (fun i => i = g) 8 7 [(true, [0, 1, 4, 5]), (false, [2]), (true, [3, 6])] (O := .cells #[.int .i64 0, .int .i64 0, .string ⟨#[]⟩] 121) (by kernel_rfl) (by kernel_rfl) rfl rfl (fun _ _ => by go_simp) (by rintro k rfl; exact r2.lt) ?_; simp only [pick, List.map_cons, List.map_nil, List.flatMap_cons, List.flatMap_nil, Option.toList_some, List.singleton_append, List.drop_succ_cons, List.drop_zero, List.getElem?_cons_zero, List.getElem?_cons_succ]
  refine ⟨by kernel_rfl, ?_⟩; apply Exists.intro; refine ⟨fun ψ hψ hne => (by (repeat (go_big_quiet_step (( fail )))); exact wpQuiet_nil rfl), ?_⟩
  intro wa ha K hK
  go_wp2_with fail
  refine (word_at g s 12 2 _ (r2.ext ha) (by omega) h5).mono ?_
  rintro e y3 ⟨rfl, r3, j3⟩
  go_wp2_with fail
  refine hK _ _ (Mut.of_grown j3 (fun b hb => by simpa using hb.symm)) ?_
  clear hK K
  refine ⟨by kernel_rfl, ?_⟩; apply Exists.intro; refine ⟨fun ψ hψ hne => (by (repeat (go_big_quiet_step (( fail )))); exact wpQuiet_nil rfl), ?_⟩
  intro wc hc gh hgh hns hblk2
  have hyc := (hyy.trans ((Mut.of_ext ha).trans (Mut.of_grown j3 (fun b hb => by simpa using hb.symm)))).trans (Mut.of_ext hc)
  have hys := hyy.size
  simp only [World.size_alloc] at hys
  have hg0 : w.heap.size ≠ g := by omega
  have hg1 : w.heap.size < gh := by omega
  have hres := (hyc.block w.heap.size (by simp) hg0).trans (heap_alloc_last w _)
  have hbel : Below w.heap.size w wc := Below.trans (ext_alloc w _) (hyc.below (by rintro i rfl; omega) (by simp))
  obtain ⟨wd, hst, hgd, hbd⟩ := cst_struct (P := Try.prog) (cs := #[.int .i64 (wv s 0), .int .i64 (wv s 2), .string (str (s.drop 12))]) hblk2 (by kernel_rfl) rfl (by simp [Value.oneCell'])
  obtain ⟨p0, p1, p2, q0, q1, q2, hlt2⟩ := blk3 hgd
  obtain ⟨c0, c1, c2, f0, f1, f2, hlt0⟩ := blk3 ((hbd.block w.heap.size (Nat.lt_of_lt_of_le (by simp) hyc.size) (by simp; omega)).trans hres)
  have hbel : Below w.heap.size w wd := hbel.trans (hbd.below (by omega) hbel.size)
  have hne := Nat.ne_of_lt hg1
  have hne' := hne.symm
  refine wpList_st rfl 121 (.tmp 7) (.tmp 27) rfl hst ?_
  clear hst hgd hbd hres hyc hyy hblk2 hc hns hgh ha r0 r1 r2 r3 o0 k0 hy0 hxb hrs hgb hgl hys j1 j2 j3
  by_cases h6 : wv s 1 = 1
  case neg =>
    have e := Lib.hid (FIN.out (⟨0, 0, []⟩, 4) (by simp [cH, h6]))
    have h6b : (wv s 1 != 1) = true := bne_iff_ne.2 h6
    go_wp2_with fail
    exact bodyPost_ret (v := .tuple #[.agg #[.int .i64 0, .int .i64 0, .string ⟨#[]⟩], .int .i64 4]) (by simp only [results, Try.results55]; go_simp) rfl ⟨by rw [e.out]; rfl, by (repeat' (first | (with_reducible assumption) | (with_reducible refine below_sc ?_ ?_) | (with_reducible refine Below.alloc ?_ ?_ _) | omega))⟩
  cases h7 : mayB (wv s 2) (s.drop 12) with
  | false =>
    have e := Lib.hid (FIN.out (⟨0, 0, []⟩, 4) (by simp [cH, h7]))
    go_wp2_with (go_at_call 111; with_reducible refine (may_any _ _ _ h7 _).mono ?_; rintro r w' ⟨rfl, rfl⟩)
    exact bodyPost_ret (v := .tuple #[.agg #[.int .i64 0, .int .i64 0, .string ⟨#[]⟩], .int .i64 4]) (by simp only [results, Try.results55]; go_simp) rfl ⟨by rw [e.out]; rfl, by (repeat' (first | (with_reducible assumption) | (with_reducible refine below_sc ?_ ?_) | (with_reducible refine Below.alloc ?_ ?_ _) | omega))⟩
  | true =>
    have e := Lib.hid (FIN.out (⟨wv s 0, wv s 2, s.drop 12⟩, 0) (by simp [cH, h5, h6, h7]))
    go_wp2_with (go_at_call 111; with_reducible refine (may_any _ _ _ h7 _).mono ?_; rintro r w' ⟨rfl, rfl⟩)
    exact bodyPost_ret (v := .tuple #[.agg #[.int .i64 (wv s 0), .int .i64 (wv s 2), .string (str (s.drop 12))], .int .i64 0]) (by simp only [results, Try.results55]; go_simp) rfl ⟨by rw [e.out]; rfl, by (repeat' (first | (with_reducible assumption) | (with_reducible refine below_sc ?_ ?_) | (with_reducible refine Below.alloc ?_ ?_ _) | omega))⟩

theorem isW_wv (s : List UInt8) (i : Nat) : isW (wv s i) = true := by
  have := wv_bd s i
  simp only [isW, decide_eq_true_eq]
  omega

end
end Go.Proofs.Yteahlnoonmfjhaa
