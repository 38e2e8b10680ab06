/- Walks of package handle: a number put into a place of bytes, the sum of 16 bytes, a handle's bytes. -/
import Derived.Test.YteahlnoonmfjhaaHandleA
set_option linter.unusedVariables false
set_option maxRecDepth 100000
namespace Go.Proofs.Yteahlnoonmfjhaa
open Go.RowKit

theorem hput_any (T : TypeId) (l : List UInt8) (g off len cap : Nat) (n : Int) (w : World) (hg : w.heap[g]? = some (.cells (bvs l).toArray T (0, 0)))
    (hl : off + len ≤ l.length) (h8 : len ≤ 8) (hc : len ≤ cap) (h0 : 0 ≤ n) (h1 : n ≤ 18446744073709551615) (hs : l.length ≤ 1000000) :
    Calls Try.prog 156 #[.slice (some ⟨g, off, none⟩) len cap, .int .u64 n] w fun e w' => e = .returned (.tuple #[]) ∧ w.setRow g (bvs (putC l off len n len)).toArray = w' := by
  have hself : w.setRow g (bvs l).toArray = w := setRow_self w g _ _ _ hg
  have Hs := Lib.hid hself
  have Hg := Lib.hid hg
  clear hself hg
  go_enter Try.func156, Try.ntmps156
  go_wp2
  go_loopw [4, 7] (fun i c wr => ∃ k : Nat, k ≤ len ∧ c = .int .i64 k ∧ Hid (wr = w.setRow g (bvs (putC l off len n k)).toArray)) (fun _ c _ => len - (intOf c).toNat)
  case atStart => exact ⟨0, Nat.zero_le _, rfl, by unfold Hid; rw [putC_zero, Hs.out]⟩
  case round =>
    obtain ⟨k, hk, rfl, hwr⟩ := hrel
    have hh : wr.heap[g]? = some (.cells (bvs (putC l off len n k)).toArray T (0, 0)) := by rw [hwr.out]; exact setRow_heap w g _ _ _ _ Hg.out
    by_cases hlt : k < len
    · have hcell : wr.cell? ⟨g, off + (len - 1 - k), none⟩ = some (bv ((putC l off len n k)[off + (len - 1 - k)]'(by rw [putC_length n hl hk]; omega))) := by
        rw [cell_of_row _ _ _ _ _ _ hh]; simpa using bvs_get _
      have hfro : wr.frozen? ⟨g, off + (len - 1 - k), none⟩ = false := by simp [World.frozen?, hh]
      clear hh
      go_wp2
      go_roundw
      case rel => exact ⟨k + 1, by omega, by go_num, by unfold Hid; rw [hwr.out, ← bv_byteOf, setRow_store Hg.out, putC_step n hl hlt]⟩
      case measure => simp [intOf]; omega
    · obtain rfl : k = len := by omega
      clear hh
      go_wp2
      go_end0
      exact ⟨rfl, hwr.out.symm⟩

/-- One byte more of the sum, as Go reckons it. -/
def fnvStep (n : Int) (b : UInt8) : Int := IntKind.u64.wrap (bits .xor .u64 n b.toNat * 1099511628211)
def fnv (l : List UInt8) : Int := l.foldl fnvStep 14695981039346656037
theorem fnv_bd (l : List UInt8) : 0 ≤ fnv l ∧ fnv l ≤ 18446744073709551615 := by
  have : ∀ (l : List UInt8) (n : Int), 0 ≤ n ∧ n ≤ 18446744073709551615 → 0 ≤ l.foldl fnvStep n ∧ l.foldl fnvStep n ≤ 18446744073709551615 := by
    intro l
    induction l with
    | nil => intro n h; exact h
    | cons b l ih =>
      intro n _
      refine ih _ ?_
      simp [fnvStep, IntKind.wrap, IntKind.bits, IntKind.signed]
      omega
  exact this l _ (by omega)

theorem hsum_any (l : List UInt8) (hl : l.length = 24) (w : World) :
    Calls Try.prog 157 #[.agg (bvs l).toArray] w fun e w' => e = .returned (.int .u64 (fnv (l.take 16))) ∧ Below w.heap.size w w' := by
  go_enter Try.func157, Try.ntmps157
  go_wp2
  go_loop [3, 4, 5] (fun s _ c => ∃ k : Nat, k ≤ 16 ∧ c = .int .i64 k ∧ s = .int .u64 (fnv (l.take k))) (fun _ _ c => 16 - (intOf c).toNat)
  case atStart => exact ⟨0, Nat.zero_le _, rfl, by simp [fnv]⟩
  case round =>
    obtain ⟨k, hk, rfl, rfl⟩ := hrel
    have hb := fnv_bd (l.take k)
    by_cases hlt : k < 16
    · have hcell : (w.alloc (.cells (bvs l).toArray 206)).cell? ⟨w.heap.size, k, none⟩ = some (.int .u8 (l[k]'(by omega)).toNat) := by
        rw [cell_of_row _ _ _ _ _ _ (heap_alloc_last _ _)]; have := bvs_get (l := l) (i := k) (by omega); simpa [bv] using this
      have hb2 := (l[k]'(by omega)).toNat_lt
      go_wp2
      go_round
      case rel => exact ⟨k + 1, by omega, by go_num, by
        rw [List.take_succ_eq_append_getElem (by omega)]
        unfold fnv
        rw [List.foldl_append]
        rfl⟩
      case measure => simp [intOf]; omega
    · obtain rfl : k = 16 := by omega
      go_wp2
      go_ret
      exact ⟨rfl, by (repeat' (first | (with_reducible assumption) | (with_reducible exact Below.refl _ _) | (with_reducible refine below_sc ?_ ?_) | ((with_reducible show (_ : Nat) ≤ _); omega) | refine Below.setCell ?_ (by first | omega | (simp; done) | (simp; omega)) _ | refine Below.alloc ?_ (by first | omega | (simp; done) | (simp; omega)) _ | refine Below.drew ?_ | refine below_drewN ?_ _ | refine Below.trans ?_ (Below.mono (by assumption) (by first | omega | (simp; done) | (simp; omega)))))⟩
end Go.Proofs.Yteahlnoonmfjhaa
