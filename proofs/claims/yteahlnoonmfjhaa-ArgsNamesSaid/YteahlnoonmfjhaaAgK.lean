/- Arguments and results among a law's arguments: openers; long; Changes. -/
import Derived.Test.YteahlnoonmfjhaaAgE
import Derived.Test.YteahlnoonmfjhaaOpen
import Derived.Test.YteahlnoonmfjhaaLiftB
import Derived.Laws.Small
set_option linter.unusedVariables false
set_option maxRecDepth 100000
namespace Go.Proofs.Yteahlnoonmfjhaa
section
open Go.RowKit

structure EnT where
  name : List UInt8
  ino : Int
  cookie : Int
deriving DecidableEq
structure AtT where
  kind : Int
  mode : Int
  links : Int
  size : Int
  mtime : Int
  ctime : Int
  ino : Int
  gen : Int
deriving DecidableEq
structure RsT where
  e : Int
  h : Int × Int × Int
  at_ : AtT
  text : List UInt8
  n : Int
  free : Int
  used : Int
  end_ : Bool
  ents : List EnT
  verf : Int
deriving DecidableEq
def enC (x : EnT) : List Value := [.string (str x.name), .int .i64 x.ino, .int .i64 x.cookie]
theorem enC_len (x : EnT) : (enC x).length = 3 := rfl
def atC (x : AtT) : List Value := [.int .u8 x.kind, .int .i64 x.mode, .int .i64 x.links, .int .i64 x.size, .int .i64 x.mtime, .int .i64 x.ctime, .int .i64 x.ino, .int .i64 x.gen]
/-- The cells of a result whose entries lie at v. -/
def rsC (x : RsT) (v : Value) : List Value := [.int .i64 x.e, .int .i64 x.h.1, .int .i64 x.h.2.1, .int .i64 x.h.2.2, .int .u8 x.at_.kind, .int .i64 x.at_.mode, .int .i64 x.at_.links, .int .i64 x.at_.size, .int .i64 x.at_.mtime, .int .i64 x.at_.ctime, .int .i64 x.at_.ino, .int .i64 x.at_.gen, .string (str x.text), .int .i64 x.n, .int .i64 x.free, .int .u64 x.used, .bool x.end_, v, .int .u64 x.verf]
def at0 : AtT := ⟨0, 0, 0, 0, 0, 0, 0, 0⟩
def rs0 : RsT := ⟨0, (0, 0, 0), at0, [], 0, 0, 0, false, [], 0⟩
/-- The entries at v. -/
def EnR (w : World) (v : Value) (l : List EnT) : Prop := RR w 3 v l.length (l.flatMap enC)
structure EnT.Ok (x : EnT) : Prop where
  name : x.name.length ≤ maxLen
  ino : I64 x.ino
  cookie : I64 x.cookie
structure AtT.Ok (x : AtT) : Prop where
  kind : 0 ≤ x.kind ∧ x.kind ≤ 255
  mode : I64 x.mode
  links : I64 x.links
  size : I64 x.size
  mtime : I64 x.mtime
  ctime : I64 x.ctime
  ino : I64 x.ino
  gen : I64 x.gen
structure RsT.Ok (x : RsT) : Prop where
  e : I64 x.e
  h : I64 x.h.1 ∧ I64 x.h.2.1 ∧ I64 x.h.2.2
  at_ : x.at_.Ok
  text : x.text.length ≤ maxLen
  n : I64 x.n
  free : I64 x.free
  used : 0 ≤ x.used ∧ x.used ≤ 18446744073709551615
  verf : 0 ≤ x.verf ∧ x.verf ≤ 18446744073709551615
  ents : x.ents.length ≤ maxLen
  each : ∀ y ∈ x.ents, y.Ok
structure AgT.Okl (a : AgT) : Prop where
  h : I64 a.h.1 ∧ I64 a.h.2.1 ∧ I64 a.h.2.2
  t : I64 a.t.1 ∧ I64 a.t.2.1 ∧ I64 a.t.2.2
  name : a.name.length ≤ maxLen
  other : a.other.length ≤ maxLen
  text : a.text.length ≤ maxLen
  at_ : I64 a.at_
  n : I64 a.n
  mode : I64 a.mode
  size : I64 a.size
  stable : I64 a.stable
  guard : I64 a.guard
  verf : 0 ≤ a.verf ∧ a.verf ≤ 18446744073709551615
structure AgsT where
  a : AgT
def AgsT.v (x : AgsT) : Value := .agg (agC x.a).toArray
def AgsT.Ok (x : AgsT) : Prop := x.a.Okl
structure RssT where
  x : RsT
  r : Value
def RssT.v (x : RssT) : Value := .agg (rsC x.x x.r).toArray
structure RssT.Ok (w : World) (x : RssT) : Prop where
  ok : x.x.Ok
  r : EnR w x.r x.x.ents
theorem list16 {α : Type} : ∀ {cs : List α}, cs.length = 16 → ∃ c0 c1 c2 c3 c4 c5 c6 c7 c8 c9 c10 c11 c12 c13 c14 c15, cs = [c0, c1, c2, c3, c4, c5, c6, c7, c8, c9, c10, c11, c12, c13, c14, c15]
  | [c0, c1, c2, c3, c4, c5, c6, c7, c8, c9, c10, c11, c12, c13, c14, c15], _ => ⟨c0, c1, c2, c3, c4, c5, c6, c7, c8, c9, c10, c11, c12, c13, c14, c15, rfl⟩
theorem list19 {α : Type} : ∀ {cs : List α}, cs.length = 19 → ∃ c0 c1 c2 c3 c4 c5 c6 c7 c8 c9 c10 c11 c12 c13 c14 c15 c16 c17 c18, cs = [c0, c1, c2, c3, c4, c5, c6, c7, c8, c9, c10, c11, c12, c13, c14, c15, c16, c17, c18]
  | [c0, c1, c2, c3, c4, c5, c6, c7, c8, c9, c10, c11, c12, c13, c14, c15, c16, c17, c18], _ => ⟨c0, c1, c2, c3, c4, c5, c6, c7, c8, c9, c10, c11, c12, c13, c14, c15, c16, c17, c18, rfl⟩
theorem i64_wf {n : Int} (h : (Lit.int .i64 n).wf = true) : I64 n := by
  simp [Lit.wf, IntKind.min, IntKind.max, IntKind.signed, IntKind.bits] at h
  unfold I64
  omega
theorem u64_wf {n : Int} (h : (Lit.int .u64 n).wf = true) : 0 ≤ n ∧ n ≤ 18446744073709551615 := by
  simp [Lit.wf, IntKind.min, IntKind.max, IntKind.signed, IntKind.bits] at h
  omega
theorem u8_wf {n : Int} (h : (Lit.int .u8 n).wf = true) : 0 ≤ n ∧ n ≤ 255 := by
  simp [Lit.wf, IntKind.min, IntKind.max, IntKind.signed, IntKind.bits] at h
  omega
section
open Go.ChangeShapes Go.WideShapes Go.ChangeAt Go.Deep
variable {H : Type} {enc : TypeId × Value → H} {W : World} {base : Nat} {b0 : Nat} {spare : Nat → Bool} {held : Bool}
theorem fields_flat {P : Program} {t : TypeId} {fs : Array Field} {fuel : Nat} {cs : List Value} {x : DataW H × List MemPlace} (hs : P.underlying t = some (.struct fs)) (h : DataW.trod enc P W base spare held fuel t cs = some x) :
    cs.length = P.cellsOf t ∧ ∀ (j : Nat) (f : Field) (o : Nat) (T : TypeId) (k : Nat), fs[j]? = some f → f.offset = o → f.type = T → P.cellsOf T = k → ∃ y n, DataW.trod enc P W base spare held n T ((cs.drop o).take k) = some y := by
  obtain ⟨ys, n, _, rfl, hl, hlen, hf⟩ := DataW.trod_struct hs h
  refine ⟨hl, fun j f o T k hj ho hT hk => ?_⟩
  subst ho hT hk
  have h1 := hf j f hj
  have hjl : j < fs.size := (Array.getElem?_eq_some_iff.1 hj).1
  have hys : ys[j]? = some (ys[j]'(by omega)) := List.getElem?_eq_getElem (by omega)
  exact ⟨_, _, h1.trans hys⟩
theorem open_flat {P : Program} {t : TypeId} {fs : Array Field} {v : Value} {d : DataW H} {p : List MemPlace} {r : Reach} (hs : P.underlying t = some (.struct fs)) (hv : Value.okWide P W r b0 t v) (h : DataW.Trod enc P W base spare held t v d p) :
    ∃ cs : List Value, v = .agg cs.toArray ∧ cs.length = P.cellsOf t ∧ ∀ (j : Nat) (f : Field) (o : Nat) (T : TypeId) (k : Nat), fs[j]? = some f → f.offset = o → f.type = T → P.cellsOf T = k → ∃ y n, DataW.trod enc P W base spare held n T ((cs.drop o).take k) = some y := by
  obtain ⟨cs, rfl, hsz⟩ := okWide_struct hs hv
  obtain ⟨fuel, hf⟩ := h
  obtain ⟨h1, h2⟩ := fields_flat hs hf
  exact ⟨cs.toList, by simp, h1, h2⟩
theorem open_h3 {n : Nat} {c0 c1 c2 : Value} {y : DataW H × List MemPlace} (h : DataW.trod enc Try.prog W base spare held n 32 [c0, c1, c2] = some y) : ∃ a b c, c0 = .int .i64 a ∧ c1 = .int .i64 b ∧ c2 = .int .i64 c ∧ I64 a ∧ I64 b ∧ I64 c := by
  obtain ⟨_, hf⟩ := fields_flat Try.underlying32 h
  obtain ⟨_, _, t0⟩ := hf 0 _ 0 3 1 rfl rfl rfl (by kernel_rfl)
  obtain ⟨_, _, t1⟩ := hf 1 _ 1 3 1 rfl rfl rfl (by kernel_rfl)
  obtain ⟨_, _, t2⟩ := hf 2 _ 2 3 1 rfl rfl rfl (by kernel_rfl)
  obtain ⟨a, e0, _, w0⟩ := DataW.trod_int Try.underlying3 t0
  obtain ⟨b, e1, _, w1⟩ := DataW.trod_int Try.underlying3 t1
  obtain ⟨c, e2, _, w2⟩ := DataW.trod_int Try.underlying3 t2
  simp at e0 e1 e2
  exact ⟨a, b, c, e0, e1, e2, i64_wf w0, i64_wf w1, i64_wf w2⟩
theorem open_args {v : Value} {d : DataW H} {p : List MemPlace} {r : Reach} (hv : Value.okWide Try.prog W r b0 35 v) (h : DataW.Trod enc Try.prog W base spare held 35 v d p) : ∃ x : AgsT, v = x.v ∧ x.Ok := by
  obtain ⟨cs, rfl, hl, hf⟩ := open_flat Try.underlying35 hv h
  obtain ⟨c0, c1, c2, c3, c4, c5, c6, c7, c8, c9, c10, c11, c12, c13, c14, c15, rfl⟩ := list16 (hl.trans (by kernel_rfl))
  obtain ⟨_, _, t0⟩ := hf 0 _ 0 32 3 rfl rfl rfl (by kernel_rfl)
  obtain ⟨_, _, t1⟩ := hf 1 _ 3 32 3 rfl rfl rfl (by kernel_rfl)
  obtain ⟨_, _, t2⟩ := hf 2 _ 6 9 1 rfl rfl rfl (by kernel_rfl)
  obtain ⟨_, _, t3⟩ := hf 3 _ 7 9 1 rfl rfl rfl (by kernel_rfl)
  obtain ⟨_, _, t4⟩ := hf 4 _ 8 9 1 rfl rfl rfl (by kernel_rfl)
  obtain ⟨_, _, t5⟩ := hf 5 _ 9 3 1 rfl rfl rfl (by kernel_rfl)
  obtain ⟨_, _, t6⟩ := hf 6 _ 10 3 1 rfl rfl rfl (by kernel_rfl)
  obtain ⟨_, _, t7⟩ := hf 7 _ 11 3 1 rfl rfl rfl (by kernel_rfl)
  obtain ⟨_, _, t8⟩ := hf 8 _ 12 3 1 rfl rfl rfl (by kernel_rfl)
  obtain ⟨_, _, t9⟩ := hf 9 _ 13 3 1 rfl rfl rfl (by kernel_rfl)
  obtain ⟨_, _, t10⟩ := hf 10 _ 14 3 1 rfl rfl rfl (by kernel_rfl)
  obtain ⟨_, _, t11⟩ := hf 11 _ 15 33 1 rfl rfl rfl (by kernel_rfl)
  obtain ⟨a0, a1, a2, rfl, rfl, rfl, b0, b1, b2⟩ := open_h3 t0
  obtain ⟨a3, a4, a5, rfl, rfl, rfl, b3, b4, b5⟩ := open_h3 t1
  obtain ⟨s2, e2, _, w2⟩ := DataW.trod_string Try.underlying9 t2
  obtain ⟨s3, e3, _, w3⟩ := DataW.trod_string Try.underlying9 t3
  obtain ⟨s4, e4, _, w4⟩ := DataW.trod_string Try.underlying9 t4
  obtain ⟨m5, e5, _, w5⟩ := DataW.trod_int Try.underlying3 t5
  obtain ⟨m6, e6, _, w6⟩ := DataW.trod_int Try.underlying3 t6
  obtain ⟨m7, e7, _, w7⟩ := DataW.trod_int Try.underlying3 t7
  obtain ⟨m8, e8, _, w8⟩ := DataW.trod_int Try.underlying3 t8
  obtain ⟨m9, e9, _, w9⟩ := DataW.trod_int Try.underlying3 t9
  obtain ⟨m10, e10, _, w10⟩ := DataW.trod_int Try.underlying3 t10
  obtain ⟨m11, e11, _, w11⟩ := DataW.trod_int Try.underlying33 t11
  simp at e2 e3 e4 e5 e6 e7 e8 e9 e10 e11
  subst e2 e3 e4 e5 e6 e7 e8 e9 e10 e11
  exact ⟨⟨⟨(a0, a1, a2), (a3, a4, a5), s2.data.toList, s3.data.toList, s4.data.toList, m5, m6, m7, m8, m9, m10, m11⟩⟩, rfl, ⟨b0, b1, b2⟩, ⟨b3, b4, b5⟩, w2, w3, w4, i64_wf w5, i64_wf w6, i64_wf w7, i64_wf w8, i64_wf w9, i64_wf w10, u64_wf w11⟩
end
end

section
open Go.RowKit

/-- Does it change something? -/
def chg (p : Int) (a : AgT) : Bool := if p = 6 then !decide (a.stable = 0) else decide (p = 2 ∨ (7 ≤ p ∧ p ≤ 13) ∨ p = 17 ∨ p = 18)
theorem agV_lit (a : AgT) : (agC a).toArray = #[.int .i64 a.h.1, .int .i64 a.h.2.1, .int .i64 a.h.2.2, .int .i64 a.t.1, .int .i64 a.t.2.1, .int .i64 a.t.2.2, .string (str a.name), .string (str a.other), .string (str a.text), .int .i64 a.at_, .int .i64 a.n, .int .i64 a.mode, .int .i64 a.size, .int .i64 a.stable, .int .i64 a.guard, .int .u64 a.verf] := rfl
set_option maxHeartbeats 4000000 in
theorem aChanges_any (p : Int) (a : AgT) (w : World) :
    Calls Try.prog 30 #[.int .i64 p, .agg (agC a).toArray] w fun e w' => e = .returned (.bool (chg p a)) ∧ Below w.heap.size w w' := by
  rw [agV_lit]
  by_cases h6 : p = 6
  · subst h6
    have hc : chg 6 a = !decide (a.stable = 0) := rfl
    rw [hc]
    by_cases hs : a.stable = 0
    · go_enter Try.func30, Try.ntmps30
      go_wp2
      go_ret
      exact ⟨by simp [hs], by (repeat' (first | (with_reducible assumption) | (with_reducible exact Below.refl _ _) | (with_reducible refine below_sc ?_ ?_) | ((with_reducible show (_ : Nat) ≤ _); omega) | refine Below.setCell ?_ (by first | omega | (simp; done) | (simp; omega)) _ | refine Below.alloc ?_ (by first | omega | (simp; done) | (simp; omega)) _ | refine Below.drew ?_ | refine below_drewN ?_ _ | refine Below.trans ?_ (Below.mono (by assumption) (by first | omega | (simp; done) | (simp; omega)))))⟩
    · go_enter Try.func30, Try.ntmps30
      go_wp2
      go_ret
      exact ⟨by simp [hs], by (repeat' (first | (with_reducible assumption) | (with_reducible exact Below.refl _ _) | (with_reducible refine below_sc ?_ ?_) | ((with_reducible show (_ : Nat) ≤ _); omega) | refine Below.setCell ?_ (by first | omega | (simp; done) | (simp; omega)) _ | refine Below.alloc ?_ (by first | omega | (simp; done) | (simp; omega)) _ | refine Below.drew ?_ | refine below_drewN ?_ _ | refine Below.trans ?_ (Below.mono (by assumption) (by first | omega | (simp; done) | (simp; omega)))))⟩
  by_cases hY : p = 2 ∨ (7 ≤ p ∧ p ≤ 13) ∨ p = 17 ∨ p = 18
  · have hc : chg p a = true := by unfold chg; rw [if_neg h6]; exact decide_eq_true hY
    rw [hc]
    have hp : p = 2 ∨ p = 7 ∨ p = 8 ∨ p = 9 ∨ p = 10 ∨ p = 11 ∨ p = 12 ∨ p = 13 ∨ p = 17 ∨ p = 18 := by omega
    clear hc hY h6
    rcases hp with rfl | rfl | rfl | rfl | rfl | rfl | rfl | rfl | rfl | rfl <;> as_aux_lemma =>
      go_enter Try.func30, Try.ntmps30
      go_wp2
      go_ret
      exact ⟨rfl, by (repeat' (first | (with_reducible assumption) | (with_reducible exact Below.refl _ _) | (with_reducible refine below_sc ?_ ?_) | ((with_reducible show (_ : Nat) ≤ _); omega) | refine Below.setCell ?_ (by first | omega | (simp; done) | (simp; omega)) _ | refine Below.alloc ?_ (by first | omega | (simp; done) | (simp; omega)) _ | refine Below.drew ?_ | refine below_drewN ?_ _ | refine Below.trans ?_ (Below.mono (by assumption) (by first | omega | (simp; done) | (simp; omega)))))⟩
  · have hc : chg p a = false := by unfold chg; rw [if_neg h6]; exact decide_eq_false hY
    rw [hc]
    have h2 : ¬ p = 2 := by omega
    have h7 : ¬ p = 7 := by omega
    have h8 : ¬ p = 8 := by omega
    have h9 : ¬ p = 9 := by omega
    have h10 : ¬ p = 10 := by omega
    have h11 : ¬ p = 11 := by omega
    have h12 : ¬ p = 12 := by omega
    have h13 : ¬ p = 13 := by omega
    have h17 : ¬ p = 17 := by omega
    have h18 : ¬ p = 18 := by omega
    clear hc hY
    go_enter Try.func30, Try.ntmps30
    go_wp2
    go_ret
    exact ⟨rfl, by (repeat' (first | (with_reducible assumption) | (with_reducible exact Below.refl _ _) | (with_reducible refine below_sc ?_ ?_) | ((with_reducible show (_ : Nat) ≤ _); omega) | refine Below.setCell ?_ (by first | omega | (simp; done) | (simp; omega)) _ | refine Below.alloc ?_ (by first | omega | (simp; done) | (simp; omega)) _ | refine Below.drew ?_ | refine below_drewN ?_ _ | refine Below.trans ?_ (Below.mono (by assumption) (by first | omega | (simp; done) | (simp; omega)))))⟩
set_option maxHeartbeats 8000000 in
theorem rChanges_any (p : Int) (a : AgT) (w : World) :
    Calls Try.prog 31 #[.int .i64 p, .agg (agC a).toArray] w fun e w' => e = .returned (.bool (chg p a)) ∧ Below w.heap.size w w' := by
  rw [agV_lit]
  by_cases h6 : p = 6
  · subst h6
    have hc : chg 6 a = !decide (a.stable = 0) := rfl
    rw [hc]
    by_cases hs : a.stable = 0
    · go_enter Try.func31, Try.ntmps31
      go_wp2
      go_ret
      exact ⟨by simp [hs], by (repeat' (first | (with_reducible assumption) | (with_reducible exact Below.refl _ _) | (with_reducible refine below_sc ?_ ?_) | ((with_reducible show (_ : Nat) ≤ _); omega) | refine Below.setCell ?_ (by first | omega | (simp; done) | (simp; omega)) _ | refine Below.alloc ?_ (by first | omega | (simp; done) | (simp; omega)) _ | refine Below.drew ?_ | refine below_drewN ?_ _ | refine Below.trans ?_ (Below.mono (by assumption) (by first | omega | (simp; done) | (simp; omega)))))⟩
    · go_enter Try.func31, Try.ntmps31
      go_wp2
      go_ret
      exact ⟨by simp [hs], by (repeat' (first | (with_reducible assumption) | (with_reducible exact Below.refl _ _) | (with_reducible refine below_sc ?_ ?_) | ((with_reducible show (_ : Nat) ≤ _); omega) | refine Below.setCell ?_ (by first | omega | (simp; done) | (simp; omega)) _ | refine Below.alloc ?_ (by first | omega | (simp; done) | (simp; omega)) _ | refine Below.drew ?_ | refine below_drewN ?_ _ | refine Below.trans ?_ (Below.mono (by assumption) (by first | omega | (simp; done) | (simp; omega)))))⟩
  have hc : chg p a = decide (p = 2 ∨ (7 ≤ p ∧ p ≤ 13) ∨ p = 17 ∨ p = 18) := by unfold chg; rw [if_neg h6]
  by_cases h2 : p = 2
  · subst h2
    rw [hc]
    go_enter Try.func31, Try.ntmps31
    go_wp2
    go_ret
    exact ⟨rfl, by (repeat' (first | (with_reducible assumption) | (with_reducible exact Below.refl _ _) | (with_reducible refine below_sc ?_ ?_) | ((with_reducible show (_ : Nat) ≤ _); omega) | refine Below.setCell ?_ (by first | omega | (simp; done) | (simp; omega)) _ | refine Below.alloc ?_ (by first | omega | (simp; done) | (simp; omega)) _ | refine Below.drew ?_ | refine below_drewN ?_ _ | refine Below.trans ?_ (Below.mono (by assumption) (by first | omega | (simp; done) | (simp; omega)))))⟩
  by_cases h7 : 7 ≤ p
  · by_cases h13 : p ≤ 13
    · have e : chg p a = true := by rw [hc]; exact decide_eq_true (by omega)
      rw [e]
      clear hc e
      go_enter Try.func31, Try.ntmps31
      go_wp2
      go_ret
      exact ⟨rfl, by (repeat' (first | (with_reducible assumption) | (with_reducible exact Below.refl _ _) | (with_reducible refine below_sc ?_ ?_) | ((with_reducible show (_ : Nat) ≤ _); omega) | refine Below.setCell ?_ (by first | omega | (simp; done) | (simp; omega)) _ | refine Below.alloc ?_ (by first | omega | (simp; done) | (simp; omega)) _ | refine Below.drew ?_ | refine below_drewN ?_ _ | refine Below.trans ?_ (Below.mono (by assumption) (by first | omega | (simp; done) | (simp; omega)))))⟩
    · by_cases h17 : p = 17
      · subst h17
        rw [hc]
        clear hc
        go_enter Try.func31, Try.ntmps31
        go_wp2
        go_ret
        exact ⟨rfl, by (repeat' (first | (with_reducible assumption) | (with_reducible exact Below.refl _ _) | (with_reducible refine below_sc ?_ ?_) | ((with_reducible show (_ : Nat) ≤ _); omega) | refine Below.setCell ?_ (by first | omega | (simp; done) | (simp; omega)) _ | refine Below.alloc ?_ (by first | omega | (simp; done) | (simp; omega)) _ | refine Below.drew ?_ | refine below_drewN ?_ _ | refine Below.trans ?_ (Below.mono (by assumption) (by first | omega | (simp; done) | (simp; omega)))))⟩
      · by_cases h18 : p = 18
        · subst h18
          rw [hc]
          clear hc
          go_enter Try.func31, Try.ntmps31
          go_wp2
          go_ret
          exact ⟨rfl, by (repeat' (first | (with_reducible assumption) | (with_reducible exact Below.refl _ _) | (with_reducible refine below_sc ?_ ?_) | ((with_reducible show (_ : Nat) ≤ _); omega) | refine Below.setCell ?_ (by first | omega | (simp; done) | (simp; omega)) _ | refine Below.alloc ?_ (by first | omega | (simp; done) | (simp; omega)) _ | refine Below.drew ?_ | refine below_drewN ?_ _ | refine Below.trans ?_ (Below.mono (by assumption) (by first | omega | (simp; done) | (simp; omega)))))⟩
        · have e : chg p a = false := by rw [hc]; exact decide_eq_false (by omega)
          rw [e]
          clear hc e
          go_enter Try.func31, Try.ntmps31
          go_wp2
          go_ret
          exact ⟨by simp [h2, h17, h18], by (repeat' (first | (with_reducible assumption) | (with_reducible exact Below.refl _ _) | (with_reducible refine below_sc ?_ ?_) | ((with_reducible show (_ : Nat) ≤ _); omega) | refine Below.setCell ?_ (by first | omega | (simp; done) | (simp; omega)) _ | refine Below.alloc ?_ (by first | omega | (simp; done) | (simp; omega)) _ | refine Below.drew ?_ | refine below_drewN ?_ _ | refine Below.trans ?_ (Below.mono (by assumption) (by first | omega | (simp; done) | (simp; omega)))))⟩
  · have h17 : ¬ p = 17 := by omega
    have h18 : ¬ p = 18 := by omega
    have e : chg p a = false := by rw [hc]; exact decide_eq_false (by omega)
    rw [e]
    clear hc e
    go_enter Try.func31, Try.ntmps31
    go_wp2
    go_ret
    exact ⟨by simp [h2, h17, h18], by (repeat' (first | (with_reducible assumption) | (with_reducible exact Below.refl _ _) | (with_reducible refine below_sc ?_ ?_) | ((with_reducible show (_ : Nat) ≤ _); omega) | refine Below.setCell ?_ (by first | omega | (simp; done) | (simp; omega)) _ | refine Below.alloc ?_ (by first | omega | (simp; done) | (simp; omega)) _ | refine Below.drew ?_ | refine below_drewN ?_ _ | refine Below.trans ?_ (Below.mono (by assumption) (by first | omega | (simp; done) | (simp; omega)))))⟩
end

section
open Go.RowKit

theorem rsV_lit (x : RsT) (v : Value) : (rsC x v).toArray = #[.int .i64 x.e, .int .i64 x.h.1, .int .i64 x.h.2.1, .int .i64 x.h.2.2, .int .u8 x.at_.kind, .int .i64 x.at_.mode, .int .i64 x.at_.links, .int .i64 x.at_.size, .int .i64 x.at_.mtime, .int .i64 x.at_.ctime, .int .i64 x.at_.ino, .int .i64 x.at_.gen, .string (str x.text), .int .i64 x.n, .int .i64 x.free, .int .u64 x.used, .bool x.end_, v, .int .u64 x.verf] := rfl
/-- The entries' sum of lengths, as the law counts. -/
def entSum : List EnT → Nat
  | [] => 0
  | x :: l => 1 + min x.name.length 100000 + entSum l
theorem entSum_app : ∀ (l m : List EnT), entSum (l ++ m) = entSum l + entSum m
  | [], m => by simp [entSum]
  | x :: l, m => by simp only [List.cons_append, entSum, entSum_app l m]; omega
theorem entSum_take (l : List EnT) (k : Nat) (x : EnT) (h : l[k]? = some x) : entSum (l.take (k + 1)) = entSum (l.take k) + (1 + min x.name.length 100000) := by
  obtain ⟨hk, hx⟩ := List.getElem?_eq_some_iff.1 h
  rw [List.take_add_one, h, entSum_app]
  simp [entSum]
theorem entSum_le (l : List EnT) : l.length ≤ entSum l := by
  induction l with
  | nil => simp [entSum]
  | cons x l ih => simp only [List.length_cons, entSum]; omega
theorem entSum_mem {l : List EnT} {x : EnT} (h : x ∈ l) (hs : entSum l < 100000) : x.name.length ≤ entSum l := by
  induction l with
  | nil => cases h
  | cons y l ih =>
    simp only [entSum] at hs ⊢
    rcases List.mem_cons.1 h with rfl | h
    · omega
    · have := ih h (by omega)
      omega
def LongA (a : AgT) (x : RsT) (w : World) (e : Ending) (w' : World) : Prop := ∃ B : Bool, e = .returned (.bool B) ∧ Below w.heap.size w w' ∧ (B = false → (a.name.length : Int) ≤ 10000 ∧ (a.other.length : Int) ≤ 10000 ∧ (a.text.length : Int) ≤ 10000 ∧ (x.text.length : Int) ≤ 10000 ∧ (entSum x.ents : Int) < 100000)
set_option maxHeartbeats 8000000 in
theorem long_any' (a : AgT) (x : RsT) (v : Value) (w : World) (hv : EnR w v x.ents) (ha : a.name.length ≤ maxLen ∧ a.other.length ≤ maxLen ∧ a.text.length ≤ maxLen) (hx : x.text.length ≤ maxLen) (hl : x.ents.length ≤ maxLen) (he : ∀ y ∈ x.ents, y.name.length ≤ maxLen) :
    Calls Try.prog 25 #[.agg (agC a).toArray, .agg (rsC x v).toArray] w (LongA a x w) := by
  obtain ⟨A, c, rfl⟩ := RR.form hv
  obtain ⟨E, hE⟩ : ∃ E, x.ents = E := ⟨_, rfl⟩
  have s0 := str_size a.name
  have s1 := str_size a.other
  have s2 := str_size a.text
  have s3 := str_size x.text
  unfold maxLen at ha hx hl
  have HR : Hid (RR w 3 (.slice A E.length c) E.length (E.flatMap enC)) := Lib.hid (by rw [← hE]; exact hv)
  have HE : Hid (∀ y ∈ E, y.name.length ≤ maxLen) := Lib.hid (by rw [← hE]; exact he)
  rw [hE] at hl ⊢
  have HE0 := Lib.hid hE
  clear hv he
  have hx1 := extAl w (.cells (agC a).toArray 35)
  have hx2 := extAl (w.alloc (.cells (agC a).toArray 35)) (.cells (rsC x (.slice A E.length c)).toArray 41)
  have hb1 := Ext.blk hx2 (heap_alloc_last w (.cells (agC a).toArray 35))
  have hb2 := heap_alloc_last (w.alloc (.cells (agC a).toArray 35)) (.cells (rsC x (.slice A E.length c)).toArray 41)
  rw [World.size_alloc] at hb2
  have hxx := Ext.trans hx1 hx2
  clear hx1 hx2 hE
  go_enter Try.func25, Try.ntmps25
  go_upto_region 1 with fail
  generalize (w.alloc (.cells (agC a).toArray 35)).alloc (.cells (rsC x (.slice A E.length c)).toArray 41) = W2 at *
  have HB1 := Lib.hid hb1
  have HB2 := Lib.hid hb2
  have HX2 := Lib.hid hxx
  clear hb1 hb2 hxx
  go_wp2_with fail
  go_loopw [5, 6] (fun nv iv wr => ∃ k : Nat, k ≤ E.length ∧ iv = .int .i64 k ∧ nv = .int .i64 (entSum (E.take k) : Nat) ∧ entSum (E.take k) ≤ 200001 ∧ Hid (Ext W2 wr)) (fun _ iv _ => E.length - (intOf iv).toNat)
  case atStart => exact ⟨0, Nat.zero_le _, rfl, rfl, Nat.zero_le _, Lib.hid (Ext.refl _)⟩
  case round =>
    obtain ⟨k, hk, rfl, rfl, ht, HX⟩ := hrel
    have hbr := Ext.blk HX.out HB2.out
    have hba := Ext.blk HX.out HB1.out
    have hl2 := heap_lt hbr
    have hl1 := heap_lt hba
    have ce : wr.cell? ⟨w.heap.size + 1, 17, none⟩ = some (.slice A E.length c) := by rw [cell_of_row _ _ _ _ _ _ hbr]; rfl
    have HBR := Lib.hid hbr
    have HBA := Lib.hid hba
    clear hbr hba
    by_cases hgo : k < E.length ∧ entSum (E.take k) < 100000
    · obtain ⟨hkl, hlt⟩ := hgo
      obtain ⟨y, hy⟩ : ∃ y, E[k]? = some y := ⟨_, List.getElem?_eq_getElem hkl⟩
      obtain ⟨b, off, rfl, hb, hcl, -⟩ := HR.out.at (by omega)
      have c0 : wr.cell? ⟨b, off + k * 3, none⟩ = some (.string (str y.name)) := RR.cellAt (enc := enC) ((HR.out.ext HX2.out).ext HX.out) enC_len hy (i := 0) rfl
      have hbl : b < wr.heap.size := Nat.lt_of_lt_of_le hb (Below.size (Ext.trans HX2.out HX.out))
      have hyl := HE.out y (List.mem_of_getElem? hy)
      unfold maxLen at hyl
      have hn := entSum_take E k y hy
      have sy := str_size y.name
      obtain ⟨n, hnn⟩ : ∃ n, y.name.length = n := ⟨_, rfl⟩
      obtain ⟨t, htt⟩ : ∃ t, entSum (E.take k) = t := ⟨_, rfl⟩
      obtain ⟨N, hN⟩ : ∃ N, str y.name = N := ⟨_, rfl⟩
      rw [hnn] at hyl hn sy
      rw [hN] at sy c0
      rw [htt] at hn ht hlt ⊢
      have HN := Lib.hid hn
      have hlt' : (t : Int) < 100000 := by omega
      have HT := Lib.hid ht
      have HLT := Lib.hid hlt
      have HYL := Lib.hid hyl
      have hyl' : (n : Int) ≤ 9223372036854775807 := by omega
      clear hn htt hnn hN hy hlt ht hyl
      by_cases h10 : ¬ (100000 : Int) < (n : Int)
      · have h10' : min n 100000 = n := by omega
        rw [h10'] at HN
        clear h10'
        go_wp2_with fail
        go_roundw
        case rel => exact ⟨k + 1, by omega, by go_num, by rw [HN.out]; go_num, by have := HLT.out; rw [HN.out]; omega, HX⟩
        case measure => simp only [intOf]; omega
      · have h10' : min n 100000 = 100000 := by omega
        rw [h10'] at HN
        clear h10'
        go_wp2_with fail
        go_roundw
        case rel => exact ⟨k + 1, by omega, by go_num, by rw [HN.out]; go_num, by have := HLT.out; rw [HN.out]; omega, HX⟩
        case measure => simp only [intOf]; omega
    · have hend : entSum (E.take k) < 100000 → k = E.length := fun h => by
        by_cases e : k = E.length
        · exact e
        · exact absurd ⟨by omega, h⟩ hgo
      have HEND : Hid ((entSum (E.take k) : Int) < 100000 → (entSum E : Int) < 100000) := Lib.hid fun h => by
        have e := hend (by omega)
        rw [e, List.take_length] at h
        exact h
      have hgo' : ¬ ((k : Int) < (E.length : Int)) ∨ ¬ ((entSum (E.take k) : Int) < 100000) := by
        by_cases e : k < E.length
        · exact .inr (fun h => hgo ⟨e, by omega⟩)
        · exact .inl (by omega)
      have d0 : wr.cell? ⟨w.heap.size, 6, none⟩ = some (.string (str a.name)) := by rw [cell_of_row _ _ _ _ _ _ HBA.out]; rfl
      have d1 : wr.cell? ⟨w.heap.size, 7, none⟩ = some (.string (str a.other)) := by rw [cell_of_row _ _ _ _ _ _ HBA.out]; rfl
      have d2 : wr.cell? ⟨w.heap.size, 8, none⟩ = some (.string (str a.text)) := by rw [cell_of_row _ _ _ _ _ _ HBA.out]; rfl
      have d3 : wr.cell? ⟨w.heap.size + 1, 12, none⟩ = some (.string (str x.text)) := by rw [cell_of_row _ _ _ _ _ _ HBR.out]; rfl
      have HXX := Lib.hid (Ext.trans HX2.out HX.out)
      clear ht hend hgo
      generalize ((entSum (E.take k) : Nat) : Int) = T at *
      clear HBR HBA HX HR HE
      obtain ⟨q0, hq0⟩ : ∃ q0, a.name.length = q0 := ⟨_, rfl⟩
      obtain ⟨q1, hq1⟩ : ∃ q1, a.other.length = q1 := ⟨_, rfl⟩
      obtain ⟨q2, hq2⟩ : ∃ q2, a.text.length = q2 := ⟨_, rfl⟩
      obtain ⟨q3, hq3⟩ : ∃ q3, x.text.length = q3 := ⟨_, rfl⟩
      rw [hq0] at s0 ha
      rw [hq1] at s1 ha
      rw [hq2] at s2 ha
      rw [hq3] at s3 hx
      have HQ := Lib.hid (And.intro hq0 (And.intro hq1 (And.intro hq2 hq3)))
      clear hq0 hq1 hq2 hq3
      rcases hgo' with hgo' | hgo'
      all_goals
        by_cases h0 : (10000 : Int) < q0
        · go_wp2_with fail
          all_goals go_ret
          all_goals exact ⟨true, rfl, HXX.out, fun h => by cases h⟩
        by_cases h1 : (10000 : Int) < q1
        · go_wp2_with fail
          all_goals go_ret
          all_goals exact ⟨true, rfl, HXX.out, fun h => by cases h⟩
        by_cases h2 : (10000 : Int) < q2
        · go_wp2_with fail
          all_goals go_ret
          all_goals exact ⟨true, rfl, HXX.out, fun h => by cases h⟩
        by_cases h3 : (10000 : Int) < q3
        · go_wp2_with fail
          all_goals go_ret
          all_goals exact ⟨true, rfl, HXX.out, fun h => by cases h⟩
        by_cases h4 : (100000 : Int) ≤ T
        · go_wp2_with fail
          all_goals go_ret
          all_goals exact ⟨true, rfl, HXX.out, fun h => by cases h⟩
        · first | (exfalso; omega) | skip
          go_wp2_with fail
          all_goals go_ret
          all_goals exact ⟨false, rfl, HXX.out, fun h => ⟨by rw [HQ.out.1]; omega, by rw [HQ.out.2.1]; omega, by rw [HQ.out.2.2.1]; omega, by rw [HQ.out.2.2.2]; omega, by rw [HE0.out]; exact HEND.out (by omega)⟩⟩
end
end Go.Proofs.Yteahlnoonmfjhaa
