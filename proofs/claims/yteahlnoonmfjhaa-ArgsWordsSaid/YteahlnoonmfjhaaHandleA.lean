/- Walks of the functions of package handle and jettyref04 that only compute: which handle may be, which stands ahead, a number's bytes. -/
import Derived.Test.YteahlnoonmfjhaaRows
import Derived.Test.YteahlnoonmfjhaaBase
set_option linter.unusedVariables false
set_option maxRecDepth 100000
namespace Go.Proofs.Yteahlnoonmfjhaa
open Go.RowKit

/-- A handle as a value. -/
def hv (s i g : Int) : Value := .agg #[.int .i64 s, .int .i64 i, .int .i64 g]

def lessB (a b c x y z : Int) : Bool := if a ≠ x then decide (a < x) else if b ≠ y then decide (b < y) else decide (c < z)
def cntB (n : Int) : Bool := decide (0 ≤ n ∧ n ≤ 2147483647)
def hmayB (s i g : Int) : Bool := decide (0 ≤ s ∧ s ≤ 2147483647 ∧ 1 ≤ i ∧ i ≤ 2147483647 ∧ 0 ≤ g ∧ g ≤ 2147483647)
/-- The four bytes of a number, the greatest first. -/
def be4 (n : Int) : List UInt8 := [byteOf (n / 16777216), byteOf (n / 65536), byteOf (n / 256), byteOf n]

theorem hret {a b : Bool} (h : a = b) : Ending.returned (.bool a) = .returned (.bool b) := by rw [h]

theorem hcount_any (n : Int) (w : World) : Calls Try.prog 148 #[.int .i64 n] w fun e w' => e = .returned (.bool (cntB n)) ∧ Below w.heap.size w w' := by
  have H : Hid (cntB n = decide (0 ≤ n ∧ n ≤ 2147483647)) := rfl
  generalize cntB n = c at *
  go_enter Try.func148, Try.ntmps148
  go_wp2
  all_goals (go_ret; refine ⟨hret ?_, Below.refl _ _⟩; rw [H.out]; simp; omega)

theorem hmay_any (s i g : Int) (w : World) : Calls Try.prog 140 #[hv s i g] w fun e w' => e = .returned (.bool (hmayB s i g)) ∧ Below w.heap.size w w' := by
  unfold hv
  have i0 : ∀ w, (Instr.index 213 (.agg #[.int .i64 s, .int .i64 i, .int .i64 g]) (.int .i64 0)).run Try.prog w = .ok (.int .i64 s) w := fun _ => by kernel_rfl
  have i1 : ∀ w, (Instr.index 213 (.agg #[.int .i64 s, .int .i64 i, .int .i64 g]) (.int .i64 1)).run Try.prog w = .ok (.int .i64 i) w := fun _ => by kernel_rfl
  have i2 : ∀ w, (Instr.index 213 (.agg #[.int .i64 s, .int .i64 i, .int .i64 g]) (.int .i64 2)).run Try.prog w = .ok (.int .i64 g) w := fun _ => by kernel_rfl
  go_enter Try.func140, Try.ntmps140
  go_wp2
  refine wp_loop_rounds 4 ?_
  iterate 4
    all_goals (try rw [rounds_succ])
    go_wp2
  all_goals (go_ret; refine ⟨hret ?_, by (repeat' (first | (with_reducible assumption) | (with_reducible exact Below.refl _ _) | (with_reducible refine below_sc ?_ ?_) | ((with_reducible show (_ : Nat) ≤ _); omega) | refine Below.setCell ?_ (by first | omega | (simp; done) | (simp; omega)) _ | refine Below.alloc ?_ (by first | omega | (simp; done) | (simp; omega)) _ | refine Below.drew ?_ | refine below_drewN ?_ _ | refine Below.trans ?_ (Below.mono (by assumption) (by first | omega | (simp; done) | (simp; omega)))))⟩; rw [Bool.eq_iff_iff]; simp [hmayB]; omega)

theorem hrmay_any (s i g : Int) (w : World) : Calls Try.prog 119 #[hv s i g] w fun e w' => e = .returned (.bool (hmayB s i g)) ∧ Below w.heap.size w w' := by
  unfold hv
  obtain ⟨p, hp⟩ : ∃ p, p = hmayB s i g := ⟨_, rfl⟩
  have H := Lib.hid hp
  rw [← hp]
  clear hp
  go_enter Try.func119, Try.ntmps119
  go_wp2
  all_goals (go_ret; refine ⟨hret ?_, by (repeat' (first | (with_reducible assumption) | (with_reducible exact Below.refl _ _) | (with_reducible refine below_sc ?_ ?_) | ((with_reducible show (_ : Nat) ≤ _); omega) | refine Below.setCell ?_ (by first | omega | (simp; done) | (simp; omega)) _ | refine Below.alloc ?_ (by first | omega | (simp; done) | (simp; omega)) _ | refine Below.drew ?_ | refine below_drewN ?_ _ | refine Below.trans ?_ (Below.mono (by assumption) (by first | omega | (simp; done) | (simp; omega)))))⟩; rw [H.out, Bool.eq_iff_iff]; simp [hmayB]; omega)

theorem hword_any (n : Int) (w : World) (_h0 : 0 ≤ n) (_h1 : n ≤ 9223372036854775807) : Calls Try.prog 120 #[.int .i64 n] w fun e w' => e = .returned (.string (str (be4 n))) ∧ Below w.heap.size w w' := by
  go_enter Try.func120, Try.ntmps120
  go_wp2
  rw [conv_bytes Try.underlying47 Try.underlying5 Try.underlying9 _ _ _ _ (be4 n) (show (be4 n).length = 4 from rfl) (fun i hi => by
    match i, hi with
    | 0, _ => go_simp; rw [← bv_byteOf]; rfl
    | 1, _ => go_simp; rw [← bv_byteOf]; rfl
    | 2, _ => go_simp; rw [← bv_byteOf]; rfl
    | 3, _ => go_simp; rw [← bv_byteOf]; rfl)]
  go_wp2
  go_ret
  exact ⟨rfl, by (repeat' (first | (with_reducible assumption) | (with_reducible exact Below.refl _ _) | (with_reducible refine below_sc ?_ ?_) | ((with_reducible show (_ : Nat) ≤ _); omega) | refine Below.setCell ?_ (by first | omega | (simp; done) | (simp; omega)) _ | refine Below.alloc ?_ (by first | omega | (simp; done) | (simp; omega)) _ | refine Below.drew ?_ | refine below_drewN ?_ _ | refine Below.trans ?_ (Below.mono (by assumption) (by first | omega | (simp; done) | (simp; omega)))))⟩

/-- The number of four bytes. -/
def num4 (a b c d : UInt8) : Int := (a.toNat : Int) * 16777216 + b.toNat * 65536 + c.toNat * 256 + d.toNat

theorem hnumber_any (s : ByteArray) (w : World) (h0 : 4 ≤ s.size) (h1 : s.size ≤ 9223372036854775807) : Calls Try.prog 152 #[.string s] w fun e w' => e = .returned (.int .i64 (num4 (s[0]'(by omega)) (s[1]'(by omega)) (s[2]'(by omega)) (s[3]'(by omega)))) ∧ Below w.heap.size w w' := by
  have i0 : 0 < s.size := by omega
  have i1 : 1 < s.size := by omega
  have i2 : 2 < s.size := by omega
  have i3 : 3 < s.size := by omega
  have j0 : (0 : Int) < (s.size : Int) := by omega
  have j1 : (1 : Int) < (s.size : Int) := by omega
  have j2 : (2 : Int) < (s.size : Int) := by omega
  have j3 : (3 : Int) < (s.size : Int) := by omega
  have b0 := s[0].toNat_lt
  have b1 := s[1].toNat_lt
  have b2 := s[2].toNat_lt
  have b3 := s[3].toNat_lt
  go_enter Try.func152, Try.ntmps152
  go_wp2
  go_quiet (fail)
  go_wp2
  go_ret
  exact ⟨rfl, by (repeat' (first | (with_reducible assumption) | (with_reducible exact Below.refl _ _) | (with_reducible refine below_sc ?_ ?_) | ((with_reducible show (_ : Nat) ≤ _); omega) | refine Below.setCell ?_ (by first | omega | (simp; done) | (simp; omega)) _ | refine Below.alloc ?_ (by first | omega | (simp; done) | (simp; omega)) _ | refine Below.drew ?_ | refine below_drewN ?_ _ | refine Below.trans ?_ (Below.mono (by assumption) (by first | omega | (simp; done) | (simp; omega)))))⟩
end Go.Proofs.Yteahlnoonmfjhaa
