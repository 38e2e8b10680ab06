/- Results: isZero (printed by gen_rse.py). -/
import Derived.Test.YteahlnoonmfjhaaRsD
set_option linter.unusedVariables false
set_option maxRecDepth 100000
namespace Go.Proofs.Yteahlnoonmfjhaa
open Go.RowKit

set_option maxHeartbeats 8000000 in
theorem isZero_any (x : RsT) (A : Option Addr) (c : Nat) (w : World) (hl : x.ents.length ≤ 100000) :
    Calls Try.prog 84 #[.agg (rsC x (.slice A x.ents.length c)).toArray] w fun e w' => e = .returned (.bool (decide (x = rs0))) ∧ Below w.heap.size w w' := by
  rw [rsV_lit]
  have HL := Lib.hid hl
  clear hl
  by_cases e0 : ¬ (x.e = 0)
  · have hd : decide (x = rs0) = false := decide_eq_false fun h => e0 (by rw [h]; rfl)
    rw [hd]
    clear hd
    as_aux_lemma =>
      go_enter Try.func84, Try.ntmps84
      go_wp2
      go_ret
      exact ⟨by first | rfl | simp [e0], by (repeat' (first | (with_reducible assumption) | (with_reducible exact Below.refl _ _) | (with_reducible refine below_sc ?_ ?_) | ((with_reducible show (_ : Nat) ≤ _); omega) | refine Below.setCell ?_ (by first | omega | (simp; done) | (simp; omega)) _ | refine Below.alloc ?_ (by first | omega | (simp; done) | (simp; omega)) _ | refine Below.drew ?_ | refine below_drewN ?_ _ | refine Below.trans ?_ (Below.mono (by assumption) (by first | omega | (simp; done) | (simp; omega)))))⟩
  replace e0 := Decidable.not_not.1 e0
  by_cases e1 : ¬ (x.h.1 = 0)
  · have hd : decide (x = rs0) = false := decide_eq_false fun h => e1 (by rw [h]; rfl)
    rw [hd]
    clear hd
    as_aux_lemma =>
      go_enter Try.func84, Try.ntmps84
      go_wp2
      go_ret
      exact ⟨by first | rfl | simp [e1], by (repeat' (first | (with_reducible assumption) | (with_reducible exact Below.refl _ _) | (with_reducible refine below_sc ?_ ?_) | ((with_reducible show (_ : Nat) ≤ _); omega) | refine Below.setCell ?_ (by first | omega | (simp; done) | (simp; omega)) _ | refine Below.alloc ?_ (by first | omega | (simp; done) | (simp; omega)) _ | refine Below.drew ?_ | refine below_drewN ?_ _ | refine Below.trans ?_ (Below.mono (by assumption) (by first | omega | (simp; done) | (simp; omega)))))⟩
  replace e1 := Decidable.not_not.1 e1
  by_cases e2 : ¬ (x.h.2.1 = 0)
  · have hd : decide (x = rs0) = false := decide_eq_false fun h => e2 (by rw [h]; rfl)
    rw [hd]
    clear hd
    as_aux_lemma =>
      go_enter Try.func84, Try.ntmps84
      go_wp2
      go_ret
      exact ⟨by first | rfl | simp [e2], by (repeat' (first | (with_reducible assumption) | (with_reducible exact Below.refl _ _) | (with_reducible refine below_sc ?_ ?_) | ((with_reducible show (_ : Nat) ≤ _); omega) | refine Below.setCell ?_ (by first | omega | (simp; done) | (simp; omega)) _ | refine Below.alloc ?_ (by first | omega | (simp; done) | (simp; omega)) _ | refine Below.drew ?_ | refine below_drewN ?_ _ | refine Below.trans ?_ (Below.mono (by assumption) (by first | omega | (simp; done) | (simp; omega)))))⟩
  replace e2 := Decidable.not_not.1 e2
  by_cases e3 : ¬ (x.h.2.2 = 0)
  · have hd : decide (x = rs0) = false := decide_eq_false fun h => e3 (by rw [h]; rfl)
    rw [hd]
    clear hd
    as_aux_lemma =>
      go_enter Try.func84, Try.ntmps84
      go_wp2
      go_ret
      exact ⟨by first | rfl | simp [e3], by (repeat' (first | (with_reducible assumption) | (with_reducible exact Below.refl _ _) | (with_reducible refine below_sc ?_ ?_) | ((with_reducible show (_ : Nat) ≤ _); omega) | refine Below.setCell ?_ (by first | omega | (simp; done) | (simp; omega)) _ | refine Below.alloc ?_ (by first | omega | (simp; done) | (simp; omega)) _ | refine Below.drew ?_ | refine below_drewN ?_ _ | refine Below.trans ?_ (Below.mono (by assumption) (by first | omega | (simp; done) | (simp; omega)))))⟩
  replace e3 := Decidable.not_not.1 e3
  by_cases e4 : ¬ (x.at_.kind = 0)
  · have hd : decide (x = rs0) = false := decide_eq_false fun h => e4 (by rw [h]; rfl)
    rw [hd]
    clear hd
    as_aux_lemma =>
      go_enter Try.func84, Try.ntmps84
      go_wp2
      go_ret
      exact ⟨by first | rfl | simp [e4], by (repeat' (first | (with_reducible assumption) | (with_reducible exact Below.refl _ _) | (with_reducible refine below_sc ?_ ?_) | ((with_reducible show (_ : Nat) ≤ _); omega) | refine Below.setCell ?_ (by first | omega | (simp; done) | (simp; omega)) _ | refine Below.alloc ?_ (by first | omega | (simp; done) | (simp; omega)) _ | refine Below.drew ?_ | refine below_drewN ?_ _ | refine Below.trans ?_ (Below.mono (by assumption) (by first | omega | (simp; done) | (simp; omega)))))⟩
  replace e4 := Decidable.not_not.1 e4
  by_cases e5 : ¬ (x.at_.mode = 0)
  · have hd : decide (x = rs0) = false := decide_eq_false fun h => e5 (by rw [h]; rfl)
    rw [hd]
    clear hd
    as_aux_lemma =>
      go_enter Try.func84, Try.ntmps84
      go_wp2
      go_ret
      exact ⟨by first | rfl | simp [e5], by (repeat' (first | (with_reducible assumption) | (with_reducible exact Below.refl _ _) | (with_reducible refine below_sc ?_ ?_) | ((with_reducible show (_ : Nat) ≤ _); omega) | refine Below.setCell ?_ (by first | omega | (simp; done) | (simp; omega)) _ | refine Below.alloc ?_ (by first | omega | (simp; done) | (simp; omega)) _ | refine Below.drew ?_ | refine below_drewN ?_ _ | refine Below.trans ?_ (Below.mono (by assumption) (by first | omega | (simp; done) | (simp; omega)))))⟩
  replace e5 := Decidable.not_not.1 e5
  by_cases e6 : ¬ (x.at_.links = 0)
  · have hd : decide (x = rs0) = false := decide_eq_false fun h => e6 (by rw [h]; rfl)
    rw [hd]
    clear hd
    as_aux_lemma =>
      go_enter Try.func84, Try.ntmps84
      go_wp2
      go_ret
      exact ⟨by first | rfl | simp [e6], by (repeat' (first | (with_reducible assumption) | (with_reducible exact Below.refl _ _) | (with_reducible refine below_sc ?_ ?_) | ((with_reducible show (_ : Nat) ≤ _); omega) | refine Below.setCell ?_ (by first | omega | (simp; done) | (simp; omega)) _ | refine Below.alloc ?_ (by first | omega | (simp; done) | (simp; omega)) _ | refine Below.drew ?_ | refine below_drewN ?_ _ | refine Below.trans ?_ (Below.mono (by assumption) (by first | omega | (simp; done) | (simp; omega)))))⟩
  replace e6 := Decidable.not_not.1 e6
  by_cases e7 : ¬ (x.at_.size = 0)
  · have hd : decide (x = rs0) = false := decide_eq_false fun h => e7 (by rw [h]; rfl)
    rw [hd]
    clear hd
    as_aux_lemma =>
      go_enter Try.func84, Try.ntmps84
      go_wp2
      go_ret
      exact ⟨by first | rfl | simp [e7], by (repeat' (first | (with_reducible assumption) | (with_reducible exact Below.refl _ _) | (with_reducible refine below_sc ?_ ?_) | ((with_reducible show (_ : Nat) ≤ _); omega) | refine Below.setCell ?_ (by first | omega | (simp; done) | (simp; omega)) _ | refine Below.alloc ?_ (by first | omega | (simp; done) | (simp; omega)) _ | refine Below.drew ?_ | refine below_drewN ?_ _ | refine Below.trans ?_ (Below.mono (by assumption) (by first | omega | (simp; done) | (simp; omega)))))⟩
  replace e7 := Decidable.not_not.1 e7
  by_cases e8 : ¬ (x.at_.mtime = 0)
  · have hd : decide (x = rs0) = false := decide_eq_false fun h => e8 (by rw [h]; rfl)
    rw [hd]
    clear hd
    as_aux_lemma =>
      go_enter Try.func84, Try.ntmps84
      go_wp2
      go_ret
      exact ⟨by first | rfl | simp [e8], by (repeat' (first | (with_reducible assumption) | (with_reducible exact Below.refl _ _) | (with_reducible refine below_sc ?_ ?_) | ((with_reducible show (_ : Nat) ≤ _); omega) | refine Below.setCell ?_ (by first | omega | (simp; done) | (simp; omega)) _ | refine Below.alloc ?_ (by first | omega | (simp; done) | (simp; omega)) _ | refine Below.drew ?_ | refine below_drewN ?_ _ | refine Below.trans ?_ (Below.mono (by assumption) (by first | omega | (simp; done) | (simp; omega)))))⟩
  replace e8 := Decidable.not_not.1 e8
  by_cases e9 : ¬ (x.at_.ctime = 0)
  · have hd : decide (x = rs0) = false := decide_eq_false fun h => e9 (by rw [h]; rfl)
    rw [hd]
    clear hd
    as_aux_lemma =>
      go_enter Try.func84, Try.ntmps84
      go_wp2
      go_ret
      exact ⟨by first | rfl | simp [e9], by (repeat' (first | (with_reducible assumption) | (with_reducible exact Below.refl _ _) | (with_reducible refine below_sc ?_ ?_) | ((with_reducible show (_ : Nat) ≤ _); omega) | refine Below.setCell ?_ (by first | omega | (simp; done) | (simp; omega)) _ | refine Below.alloc ?_ (by first | omega | (simp; done) | (simp; omega)) _ | refine Below.drew ?_ | refine below_drewN ?_ _ | refine Below.trans ?_ (Below.mono (by assumption) (by first | omega | (simp; done) | (simp; omega)))))⟩
  replace e9 := Decidable.not_not.1 e9
  by_cases e10 : ¬ (x.at_.ino = 0)
  · have hd : decide (x = rs0) = false := decide_eq_false fun h => e10 (by rw [h]; rfl)
    rw [hd]
    clear hd
    as_aux_lemma =>
      go_enter Try.func84, Try.ntmps84
      go_wp2
      go_ret
      exact ⟨by first | rfl | simp [e10], by (repeat' (first | (with_reducible assumption) | (with_reducible exact Below.refl _ _) | (with_reducible refine below_sc ?_ ?_) | ((with_reducible show (_ : Nat) ≤ _); omega) | refine Below.setCell ?_ (by first | omega | (simp; done) | (simp; omega)) _ | refine Below.alloc ?_ (by first | omega | (simp; done) | (simp; omega)) _ | refine Below.drew ?_ | refine below_drewN ?_ _ | refine Below.trans ?_ (Below.mono (by assumption) (by first | omega | (simp; done) | (simp; omega)))))⟩
  replace e10 := Decidable.not_not.1 e10
  by_cases e11 : ¬ (x.at_.gen = 0)
  · have hd : decide (x = rs0) = false := decide_eq_false fun h => e11 (by rw [h]; rfl)
    rw [hd]
    clear hd
    as_aux_lemma =>
      go_enter Try.func84, Try.ntmps84
      go_wp2
      go_ret
      exact ⟨by first | rfl | simp [e11], by (repeat' (first | (with_reducible assumption) | (with_reducible exact Below.refl _ _) | (with_reducible refine below_sc ?_ ?_) | ((with_reducible show (_ : Nat) ≤ _); omega) | refine Below.setCell ?_ (by first | omega | (simp; done) | (simp; omega)) _ | refine Below.alloc ?_ (by first | omega | (simp; done) | (simp; omega)) _ | refine Below.drew ?_ | refine below_drewN ?_ _ | refine Below.trans ?_ (Below.mono (by assumption) (by first | omega | (simp; done) | (simp; omega)))))⟩
  replace e11 := Decidable.not_not.1 e11
  by_cases e12 : ¬ ((str x.text).toList = [])
  · have hd : decide (x = rs0) = false := decide_eq_false fun h => e12 (by rw [strL, h]; rfl)
    rw [hd]
    clear hd
    as_aux_lemma =>
      go_enter Try.func84, Try.ntmps84
      go_wp2
      go_ret
      exact ⟨by first | rfl | simp [e12], by (repeat' (first | (with_reducible assumption) | (with_reducible exact Below.refl _ _) | (with_reducible refine below_sc ?_ ?_) | ((with_reducible show (_ : Nat) ≤ _); omega) | refine Below.setCell ?_ (by first | omega | (simp; done) | (simp; omega)) _ | refine Below.alloc ?_ (by first | omega | (simp; done) | (simp; omega)) _ | refine Below.drew ?_ | refine below_drewN ?_ _ | refine Below.trans ?_ (Below.mono (by assumption) (by first | omega | (simp; done) | (simp; omega)))))⟩
  replace e12 := Decidable.not_not.1 e12
  by_cases e13 : ¬ (x.n = 0)
  · have hd : decide (x = rs0) = false := decide_eq_false fun h => e13 (by rw [h]; rfl)
    rw [hd]
    clear hd
    as_aux_lemma =>
      go_enter Try.func84, Try.ntmps84
      go_wp2
      go_ret
      exact ⟨by first | rfl | simp [e13], by (repeat' (first | (with_reducible assumption) | (with_reducible exact Below.refl _ _) | (with_reducible refine below_sc ?_ ?_) | ((with_reducible show (_ : Nat) ≤ _); omega) | refine Below.setCell ?_ (by first | omega | (simp; done) | (simp; omega)) _ | refine Below.alloc ?_ (by first | omega | (simp; done) | (simp; omega)) _ | refine Below.drew ?_ | refine below_drewN ?_ _ | refine Below.trans ?_ (Below.mono (by assumption) (by first | omega | (simp; done) | (simp; omega)))))⟩
  replace e13 := Decidable.not_not.1 e13
  by_cases e14 : ¬ (x.free = 0)
  · have hd : decide (x = rs0) = false := decide_eq_false fun h => e14 (by rw [h]; rfl)
    rw [hd]
    clear hd
    as_aux_lemma =>
      go_enter Try.func84, Try.ntmps84
      go_wp2
      go_ret
      exact ⟨by first | rfl | simp [e14], by (repeat' (first | (with_reducible assumption) | (with_reducible exact Below.refl _ _) | (with_reducible refine below_sc ?_ ?_) | ((with_reducible show (_ : Nat) ≤ _); omega) | refine Below.setCell ?_ (by first | omega | (simp; done) | (simp; omega)) _ | refine Below.alloc ?_ (by first | omega | (simp; done) | (simp; omega)) _ | refine Below.drew ?_ | refine below_drewN ?_ _ | refine Below.trans ?_ (Below.mono (by assumption) (by first | omega | (simp; done) | (simp; omega)))))⟩
  replace e14 := Decidable.not_not.1 e14
  by_cases e15 : ¬ (x.used = 0)
  · have hd : decide (x = rs0) = false := decide_eq_false fun h => e15 (by rw [h]; rfl)
    rw [hd]
    clear hd
    as_aux_lemma =>
      go_enter Try.func84, Try.ntmps84
      go_wp2
      go_ret
      exact ⟨by first | rfl | simp [e15], by (repeat' (first | (with_reducible assumption) | (with_reducible exact Below.refl _ _) | (with_reducible refine below_sc ?_ ?_) | ((with_reducible show (_ : Nat) ≤ _); omega) | refine Below.setCell ?_ (by first | omega | (simp; done) | (simp; omega)) _ | refine Below.alloc ?_ (by first | omega | (simp; done) | (simp; omega)) _ | refine Below.drew ?_ | refine below_drewN ?_ _ | refine Below.trans ?_ (Below.mono (by assumption) (by first | omega | (simp; done) | (simp; omega)))))⟩
  replace e15 := Decidable.not_not.1 e15
  by_cases e16 : ¬ (x.end_ = false)
  · have hd : decide (x = rs0) = false := decide_eq_false fun h => e16 (by rw [h]; rfl)
    rw [hd]
    clear hd
    have e16 : x.end_ = true := by simpa using e16
    as_aux_lemma =>
      go_enter Try.func84, Try.ntmps84
      go_wp2
      go_ret
      exact ⟨by first | rfl | simp [e16], by (repeat' (first | (with_reducible assumption) | (with_reducible exact Below.refl _ _) | (with_reducible refine below_sc ?_ ?_) | ((with_reducible show (_ : Nat) ≤ _); omega) | refine Below.setCell ?_ (by first | omega | (simp; done) | (simp; omega)) _ | refine Below.alloc ?_ (by first | omega | (simp; done) | (simp; omega)) _ | refine Below.drew ?_ | refine below_drewN ?_ _ | refine Below.trans ?_ (Below.mono (by assumption) (by first | omega | (simp; done) | (simp; omega)))))⟩
  replace e16 := Decidable.not_not.1 e16
  by_cases e17 : ¬ (x.ents.length = 0)
  · have hd : decide (x = rs0) = false := decide_eq_false fun h => e17 (by rw [h]; rfl)
    rw [hd]
    clear hd
    have e17 : ¬ ((x.ents.length : Int) = 0) := by omega
    as_aux_lemma =>
      go_enter Try.func84, Try.ntmps84
      go_wp2
      go_ret
      exact ⟨by first | rfl | simp [e17], by (repeat' (first | (with_reducible assumption) | (with_reducible exact Below.refl _ _) | (with_reducible refine below_sc ?_ ?_) | ((with_reducible show (_ : Nat) ≤ _); omega) | refine Below.setCell ?_ (by first | omega | (simp; done) | (simp; omega)) _ | refine Below.alloc ?_ (by first | omega | (simp; done) | (simp; omega)) _ | refine Below.drew ?_ | refine below_drewN ?_ _ | refine Below.trans ?_ (Below.mono (by assumption) (by first | omega | (simp; done) | (simp; omega)))))⟩
  replace e17 := Decidable.not_not.1 e17
  have e17i : (x.ents.length : Int) = 0 := by omega
  by_cases e18 : ¬ (x.verf = 0)
  · have hd : decide (x = rs0) = false := decide_eq_false fun h => e18 (by rw [h]; rfl)
    rw [hd]
    clear hd
    as_aux_lemma =>
      go_enter Try.func84, Try.ntmps84
      go_wp2
      go_ret
      exact ⟨by first | rfl | simp [e18], by (repeat' (first | (with_reducible assumption) | (with_reducible exact Below.refl _ _) | (with_reducible refine below_sc ?_ ?_) | ((with_reducible show (_ : Nat) ≤ _); omega) | refine Below.setCell ?_ (by first | omega | (simp; done) | (simp; omega)) _ | refine Below.alloc ?_ (by first | omega | (simp; done) | (simp; omega)) _ | refine Below.drew ?_ | refine below_drewN ?_ _ | refine Below.trans ?_ (Below.mono (by assumption) (by first | omega | (simp; done) | (simp; omega)))))⟩
  replace e18 := Decidable.not_not.1 e18
  have hd : decide (x = rs0) = true := decide_eq_true (by
    obtain ⟨q0, ⟨q1, q2, q3⟩, ⟨a0, a1, a2, a3, a4, a5, a6, a7⟩, t, n, f, u, en, es, v⟩ := x
    simp only at *
    rw [strL] at e12
    have := List.length_eq_zero_iff.1 e17
    subst e0 e1 e2 e3 e4 e5 e6 e7 e8 e9 e10 e11 e12 e13 e14 e15 e16 e18 this
    rfl)
  rw [hd]
  clear hd
  go_enter Try.func84, Try.ntmps84
  go_wp2
  go_ret
  exact ⟨rfl, by (repeat' (first | (with_reducible assumption) | (with_reducible exact Below.refl _ _) | (with_reducible refine below_sc ?_ ?_) | ((with_reducible show (_ : Nat) ≤ _); omega) | refine Below.setCell ?_ (by first | omega | (simp; done) | (simp; omega)) _ | refine Below.alloc ?_ (by first | omega | (simp; done) | (simp; omega)) _ | refine Below.drew ?_ | refine below_drewN ?_ _ | refine Below.trans ?_ (Below.mono (by assumption) (by first | omega | (simp; done) | (simp; omega)))))⟩
end Go.Proofs.Yteahlnoonmfjhaa
