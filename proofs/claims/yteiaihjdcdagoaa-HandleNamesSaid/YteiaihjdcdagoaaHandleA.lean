/- Walks of the functions of package handle and jettyref04 that only compute: which handle may be, which stands ahead, a number's bytes. -/
import Derived.Test.YteiaihjdcdagoaaRows
import Derived.Test.YteiaihjdcdagoaaBase
set_option linter.unusedVariables false
namespace Go.Proofs.Yteiaihjdcdagoaa
open Go.RowKit

/-- A handle as a value. -/
def hv (s i g : Int) : Value := .agg #[.int .i64 s, .int .i64 i, .int .i64 g]

def lessB (a b c x y z : Int) : Bool := if a ≠ x then decide (a < x) else if b ≠ y then decide (b < y) else decide (c < z)
def cntB (n : Int) : Bool := decide (0 ≤ n ∧ n ≤ 2147483647)
def mayB (s i g : Int) : Bool := decide (0 ≤ s ∧ s ≤ 2147483647 ∧ 1 ≤ i ∧ i ≤ 2147483647 ∧ 0 ≤ g ∧ g ≤ 2147483647)
/-- The four bytes of a number, the greatest first. -/
def be4 (n : Int) : List UInt8 := [byteOf (n / 16777216), byteOf (n / 65536), byteOf (n / 256), byteOf n]

theorem hret {a b : Bool} (h : a = b) : Ending.returned (.bool a) = .returned (.bool b) := by rw [h]

theorem less_any (a b c x y z : Int) (w : World) : Calls Try.prog 16 #[hv a b c, hv x y z] w fun e w' => e = .returned (.bool (lessB a b c x y z)) ∧ Below w.heap.size w w' := by
  unfold hv
  go_enter Try.func16, Try.ntmps16
  go_wp2
  all_goals (go_ret; refine ⟨hret ?_, ((Below.refl _ _).alloc (Nat.le_refl _) _).alloc (by simp) _⟩; simp_all [lessB]; try omega)

theorem rless_any (a b c x y z : Int) (w : World) : Calls Try.prog 17 #[hv a b c, hv x y z] w fun e w' => e = .returned (.bool (lessB a b c x y z)) ∧ Below w.heap.size w w' := by
  unfold hv
  go_enter Try.func17, Try.ntmps17
  go_wp2
  all_goals (go_ret; refine ⟨hret ?_, ((Below.refl _ _).alloc (Nat.le_refl _) _).alloc (by simp) _⟩; simp_all [lessB]; try omega)

theorem root_any (n : Int) (w : World) : Calls Try.prog 18 #[.int .i64 n] w fun e w' => e = .returned (hv n 1 0) ∧ Below w.heap.size w w' := by
  unfold hv
  go_enter Try.func18, Try.ntmps18
  go_wp2
  exact bodyPost_ret (v := hv n 1 0) (by simp [results, Try.results18, go_sem]; rfl) rfl ⟨rfl, by (repeat (first | exact Below.refl _ _ | refine Below.setCell ?_ (by first | omega | (simp; done) | (simp; omega)) _ | refine Below.alloc ?_ (by first | omega | (simp; done) | (simp; omega)) _ | refine Below.drew ?_ | refine below_drewN ?_ _ | refine Below.trans ?_ (Below.mono (by assumption) (by first | omega | (simp; done) | (simp; omega)))))⟩

theorem snapdir_any (w : World) : Calls Try.prog 19 #[] w fun e w' => e = .returned (hv 0 2147483647 0) ∧ Below w.heap.size w w' := by
  unfold hv
  go_enter Try.func19, Try.ntmps19
  go_wp2
  exact bodyPost_ret (v := hv 0 2147483647 0) (by simp [results, Try.results19, go_sem]; rfl) rfl ⟨rfl, by (repeat (first | exact Below.refl _ _ | refine Below.setCell ?_ (by first | omega | (simp; done) | (simp; omega)) _ | refine Below.alloc ?_ (by first | omega | (simp; done) | (simp; omega)) _ | refine Below.drew ?_ | refine below_drewN ?_ _ | refine Below.trans ?_ (Below.mono (by assumption) (by first | omega | (simp; done) | (simp; omega)))))⟩

theorem count_any (n : Int) (w : World) : Calls Try.prog 23 #[.int .i64 n] w fun e w' => e = .returned (.bool (cntB n)) ∧ Below w.heap.size w w' := by
  have H : Hid (cntB n = decide (0 ≤ n ∧ n ≤ 2147483647)) := rfl
  generalize cntB n = c at *
  go_enter Try.func23, Try.ntmps23
  go_wp2
  all_goals (go_ret; refine ⟨hret ?_, Below.refl _ _⟩; rw [H.out]; simp; omega)

theorem may_any (s i g : Int) (w : World) : Calls Try.prog 14 #[hv s i g] w fun e w' => e = .returned (.bool (mayB s i g)) ∧ Below w.heap.size w w' := by
  unfold hv
  have i0 : ∀ w, (Instr.index 46 (.agg #[.int .i64 s, .int .i64 i, .int .i64 g]) (.int .i64 0)).run Try.prog w = .ok (.int .i64 s) w := fun _ => by kernel_rfl
  have i1 : ∀ w, (Instr.index 46 (.agg #[.int .i64 s, .int .i64 i, .int .i64 g]) (.int .i64 1)).run Try.prog w = .ok (.int .i64 i) w := fun _ => by kernel_rfl
  have i2 : ∀ w, (Instr.index 46 (.agg #[.int .i64 s, .int .i64 i, .int .i64 g]) (.int .i64 2)).run Try.prog w = .ok (.int .i64 g) w := fun _ => by kernel_rfl
  go_enter Try.func14, Try.ntmps14
  go_wp2
  refine wp_loop_rounds 4 ?_
  iterate 4
    all_goals (try rw [rounds_succ])
    go_wp2
  all_goals (go_ret; refine ⟨hret ?_, by (repeat (first | exact Below.refl _ _ | refine Below.setCell ?_ (by first | omega | (simp; done) | (simp; omega)) _ | refine Below.alloc ?_ (by first | omega | (simp; done) | (simp; omega)) _ | refine Below.drew ?_ | refine below_drewN ?_ _ | refine Below.trans ?_ (Below.mono (by assumption) (by first | omega | (simp; done) | (simp; omega)))))⟩; rw [Bool.eq_iff_iff]; simp [mayB]; omega)

theorem rmay_any (s i g : Int) (w : World) : Calls Try.prog 15 #[hv s i g] w fun e w' => e = .returned (.bool (mayB s i g)) ∧ Below w.heap.size w w' := by
  unfold hv
  obtain ⟨p, hp⟩ : ∃ p, p = mayB s i g := ⟨_, rfl⟩
  have H := Lib.hid hp
  rw [← hp]
  clear hp
  go_enter Try.func15, Try.ntmps15
  go_wp2
  all_goals (go_ret; refine ⟨hret ?_, by (repeat (first | exact Below.refl _ _ | refine Below.setCell ?_ (by first | omega | (simp; done) | (simp; omega)) _ | refine Below.alloc ?_ (by first | omega | (simp; done) | (simp; omega)) _ | refine Below.drew ?_ | refine below_drewN ?_ _ | refine Below.trans ?_ (Below.mono (by assumption) (by first | omega | (simp; done) | (simp; omega)))))⟩; rw [H.out, Bool.eq_iff_iff]; simp [mayB]; omega)

theorem word_any (n : Int) (w : World) (_h0 : 0 ≤ n) (_h1 : n ≤ 9223372036854775807) : Calls Try.prog 21 #[.int .i64 n] w fun e w' => e = .returned (.string (str (be4 n))) ∧ Below w.heap.size w w' := by
  go_enter Try.func21, Try.ntmps21
  go_wp2
  rw [conv_bytes Try.underlying33 Try.underlying5 Try.underlying9 _ _ _ _ (be4 n) (show (be4 n).length = 4 from rfl) (fun i hi => by
    match i, hi with
    | 0, _ => go_simp; rw [← bv_byteOf]; rfl
    | 1, _ => go_simp; rw [← bv_byteOf]; rfl
    | 2, _ => go_simp; rw [← bv_byteOf]; rfl
    | 3, _ => go_simp; rw [← bv_byteOf]; rfl)]
  go_wp2
  go_ret
  exact ⟨rfl, by (repeat (first | exact Below.refl _ _ | refine Below.setCell ?_ (by first | omega | (simp; done) | (simp; omega)) _ | refine Below.alloc ?_ (by first | omega | (simp; done) | (simp; omega)) _ | refine Below.drew ?_ | refine below_drewN ?_ _ | refine Below.trans ?_ (Below.mono (by assumption) (by first | omega | (simp; done) | (simp; omega)))))⟩

/-- The number of four bytes. -/
def num4 (a b c d : UInt8) : Int := (a.toNat : Int) * 16777216 + b.toNat * 65536 + c.toNat * 256 + d.toNat

theorem number_any (s : ByteArray) (w : World) (h0 : 4 ≤ s.size) (h1 : s.size ≤ 9223372036854775807) : Calls Try.prog 22 #[.string s] w fun e w' => e = .returned (.int .i64 (num4 (s[0]'(by omega)) (s[1]'(by omega)) (s[2]'(by omega)) (s[3]'(by omega)))) ∧ Below w.heap.size w w' := by
  have i0 : 0 < s.size := by omega
  have i1 : 1 < s.size := by omega
  have i2 : 2 < s.size := by omega
  have i3 : 3 < s.size := by omega
  have j0 : (0 : Int) < (s.size : Int) := by omega
  have j1 : (1 : Int) < (s.size : Int) := by omega
  have j2 : (2 : Int) < (s.size : Int) := by omega
  have j3 : (3 : Int) < (s.size : Int) := by omega
  have b0 := s[0].toNat_lt
  have b1 := s[1].toNat_lt
  have b2 := s[2].toNat_lt
  have b3 := s[3].toNat_lt
  go_enter Try.func22, Try.ntmps22
  go_wp2
  go_quiet (fail)
  go_wp2
  go_ret
  exact ⟨rfl, by (repeat (first | exact Below.refl _ _ | refine Below.setCell ?_ (by first | omega | (simp; done) | (simp; omega)) _ | refine Below.alloc ?_ (by first | omega | (simp; done) | (simp; omega)) _ | refine Below.drew ?_ | refine below_drewN ?_ _ | refine Below.trans ?_ (Below.mono (by assumption) (by first | omega | (simp; done) | (simp; omega)))))⟩
end Go.Proofs.Yteiaihjdcdagoaa
