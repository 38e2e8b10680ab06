/- Texts of mine in one: HandleA, HandleB, HandleC, HandleD, HandleE, HandleF, HandleG. No statement of its own. -/
import Derived.Test.YteahlnoonmfjhaaRows
import Derived.Test.YteahlnoonmfjhaaBase
import Derived.Test.YteahlnoonmfjhaaTail
import Derived.Test.YteahlnoonmfjhaaAlloc
set_option linter.unusedVariables false
set_option maxRecDepth 100000
namespace Go.Proofs.Yteahlnoonmfjhaa
section
set_option linter.unusedVariables false
open Go.RowKit

/-- A handle as a value. -/
def hv (s i g : Int) : Value := .agg #[.int .i64 s, .int .i64 i, .int .i64 g]

def lessB (a b c x y z : Int) : Bool := if a ≠ x then decide (a < x) else if b ≠ y then decide (b < y) else decide (c < z)
def cntB (n : Int) : Bool := decide (0 ≤ n ∧ n ≤ 2147483647)
def hmayB (s i g : Int) : Bool := decide (0 ≤ s ∧ s ≤ 2147483647 ∧ 1 ≤ i ∧ i ≤ 2147483647 ∧ 0 ≤ g ∧ g ≤ 2147483647)
/-- The four bytes of a number, the greatest first. -/
def be4 (n : Int) : List UInt8 := [byteOf (n / 16777216), byteOf (n / 65536), byteOf (n / 256), byteOf n]

theorem hret {a b : Bool} (h : a = b) : Ending.returned (.bool a) = .returned (.bool b) := by rw [h]

theorem hcount_any (n : Int) (w : World) : Calls Try.prog 148 #[.int .i64 n] w fun e w' => e = .returned (.bool (cntB n)) ∧ Below w.heap.size w w' := by
  have H : Hid (cntB n = decide (0 ≤ n ∧ n ≤ 2147483647)) := rfl
  generalize cntB n = c at *
  go_enter Try.func148, Try.ntmps148
  go_wp2
  all_goals (go_ret; refine ⟨hret ?_, Below.refl _ _⟩; rw [H.out]; simp; omega)

theorem hmay_any (s i g : Int) (w : World) : Calls Try.prog 140 #[hv s i g] w fun e w' => e = .returned (.bool (hmayB s i g)) ∧ Below w.heap.size w w' := by
  unfold hv
  have i0 : ∀ w, (Instr.index 213 (.agg #[.int .i64 s, .int .i64 i, .int .i64 g]) (.int .i64 0)).run Try.prog w = .ok (.int .i64 s) w := fun _ => by kernel_rfl
  have i1 : ∀ w, (Instr.index 213 (.agg #[.int .i64 s, .int .i64 i, .int .i64 g]) (.int .i64 1)).run Try.prog w = .ok (.int .i64 i) w := fun _ => by kernel_rfl
  have i2 : ∀ w, (Instr.index 213 (.agg #[.int .i64 s, .int .i64 i, .int .i64 g]) (.int .i64 2)).run Try.prog w = .ok (.int .i64 g) w := fun _ => by kernel_rfl
  go_enter Try.func140, Try.ntmps140
  go_wp2
  refine wp_loop_rounds 4 ?_
  iterate 4
    all_goals (try rw [rounds_succ])
    go_wp2
  all_goals (go_ret; refine ⟨hret ?_, by (repeat' (first | (with_reducible assumption) | (with_reducible exact Below.refl _ _) | (with_reducible refine below_sc ?_ ?_) | ((with_reducible show (_ : Nat) ≤ _); omega) | refine Below.setCell ?_ (by first | omega | (simp; done) | (simp; omega)) _ | refine Below.alloc ?_ (by first | omega | (simp; done) | (simp; omega)) _ | refine Below.drew ?_ | refine below_drewN ?_ _ | refine Below.trans ?_ (Below.mono (by assumption) (by first | omega | (simp; done) | (simp; omega)))))⟩; rw [Bool.eq_iff_iff]; simp [hmayB]; omega)

theorem hrmay_any (s i g : Int) (w : World) : Calls Try.prog 119 #[hv s i g] w fun e w' => e = .returned (.bool (hmayB s i g)) ∧ Below w.heap.size w w' := by
  unfold hv
  obtain ⟨p, hp⟩ : ∃ p, p = hmayB s i g := ⟨_, rfl⟩
  have H := Lib.hid hp
  rw [← hp]
  clear hp
  go_enter Try.func119, Try.ntmps119
  go_wp2
  all_goals (go_ret; refine ⟨hret ?_, by (repeat' (first | (with_reducible assumption) | (with_reducible exact Below.refl _ _) | (with_reducible refine below_sc ?_ ?_) | ((with_reducible show (_ : Nat) ≤ _); omega) | refine Below.setCell ?_ (by first | omega | (simp; done) | (simp; omega)) _ | refine Below.alloc ?_ (by first | omega | (simp; done) | (simp; omega)) _ | refine Below.drew ?_ | refine below_drewN ?_ _ | refine Below.trans ?_ (Below.mono (by assumption) (by first | omega | (simp; done) | (simp; omega)))))⟩; rw [H.out, Bool.eq_iff_iff]; simp [hmayB]; omega)

theorem hword_any (n : Int) (w : World) (_h0 : 0 ≤ n) (_h1 : n ≤ 9223372036854775807) : Calls Try.prog 120 #[.int .i64 n] w fun e w' => e = .returned (.string (str (be4 n))) ∧ Below w.heap.size w w' := by
  go_enter Try.func120, Try.ntmps120
  go_wp2
  rw [conv_bytes Try.underlying47 Try.underlying5 Try.underlying9 _ _ _ _ (be4 n) (show (be4 n).length = 4 from rfl) (fun i hi => by
    match i, hi with
    | 0, _ => go_simp; rw [← bv_byteOf]; rfl
    | 1, _ => go_simp; rw [← bv_byteOf]; rfl
    | 2, _ => go_simp; rw [← bv_byteOf]; rfl
    | 3, _ => go_simp; rw [← bv_byteOf]; rfl)]
  go_wp2
  go_ret
  exact ⟨rfl, by (repeat' (first | (with_reducible assumption) | (with_reducible exact Below.refl _ _) | (with_reducible refine below_sc ?_ ?_) | ((with_reducible show (_ : Nat) ≤ _); omega) | refine Below.setCell ?_ (by first | omega | (simp; done) | (simp; omega)) _ | refine Below.alloc ?_ (by first | omega | (simp; done) | (simp; omega)) _ | refine Below.drew ?_ | refine below_drewN ?_ _ | refine Below.trans ?_ (Below.mono (by assumption) (by first | omega | (simp; done) | (simp; omega)))))⟩

/-- The number of four bytes. -/
def num4 (a b c d : UInt8) : Int := (a.toNat : Int) * 16777216 + b.toNat * 65536 + c.toNat * 256 + d.toNat

theorem hnumber_any (s : ByteArray) (w : World) (h0 : 4 ≤ s.size) (h1 : s.size ≤ 9223372036854775807) : Calls Try.prog 152 #[.string s] w fun e w' => e = .returned (.int .i64 (num4 (s[0]'(by omega)) (s[1]'(by omega)) (s[2]'(by omega)) (s[3]'(by omega)))) ∧ Below w.heap.size w w' := by
  have i0 : 0 < s.size := by omega
  have i1 : 1 < s.size := by omega
  have i2 : 2 < s.size := by omega
  have i3 : 3 < s.size := by omega
  have j0 : (0 : Int) < (s.size : Int) := by omega
  have j1 : (1 : Int) < (s.size : Int) := by omega
  have j2 : (2 : Int) < (s.size : Int) := by omega
  have j3 : (3 : Int) < (s.size : Int) := by omega
  have b0 := s[0].toNat_lt
  have b1 := s[1].toNat_lt
  have b2 := s[2].toNat_lt
  have b3 := s[3].toNat_lt
  go_enter Try.func152, Try.ntmps152
  go_wp2
  go_quiet (fail)
  go_wp2
  go_ret
  exact ⟨rfl, by (repeat' (first | (with_reducible assumption) | (with_reducible exact Below.refl _ _) | (with_reducible refine below_sc ?_ ?_) | ((with_reducible show (_ : Nat) ≤ _); omega) | refine Below.setCell ?_ (by first | omega | (simp; done) | (simp; omega)) _ | refine Below.alloc ?_ (by first | omega | (simp; done) | (simp; omega)) _ | refine Below.drew ?_ | refine below_drewN ?_ _ | refine Below.trans ?_ (Below.mono (by assumption) (by first | omega | (simp; done) | (simp; omega)))))⟩
end

section
set_option linter.unusedVariables false
open Go.RowKit

theorem hput_any (T : TypeId) (l : List UInt8) (g off len cap : Nat) (n : Int) (w : World) (hg : w.heap[g]? = some (.cells (bvs l).toArray T (0, 0)))
    (hl : off + len ≤ l.length) (h8 : len ≤ 8) (hc : len ≤ cap) (h0 : 0 ≤ n) (h1 : n ≤ 18446744073709551615) (hs : l.length ≤ 1000000) :
    Calls Try.prog 156 #[.slice (some ⟨g, off, none⟩) len cap, .int .u64 n] w fun e w' => e = .returned (.tuple #[]) ∧ w.setRow g (bvs (putC l off len n len)).toArray = w' := by
  have hself : w.setRow g (bvs l).toArray = w := setRow_self w g _ _ _ hg
  have Hs := Lib.hid hself
  have Hg := Lib.hid hg
  clear hself hg
  go_enter Try.func156, Try.ntmps156
  go_wp2
  go_loopw [4, 7] (fun i c wr => ∃ k : Nat, k ≤ len ∧ c = .int .i64 k ∧ Hid (wr = w.setRow g (bvs (putC l off len n k)).toArray)) (fun _ c _ => len - (intOf c).toNat)
  case atStart => exact ⟨0, Nat.zero_le _, rfl, by unfold Hid; rw [putC_zero, Hs.out]⟩
  case round =>
    obtain ⟨k, hk, rfl, hwr⟩ := hrel
    have hh : wr.heap[g]? = some (.cells (bvs (putC l off len n k)).toArray T (0, 0)) := by rw [hwr.out]; exact setRow_heap w g _ _ _ _ Hg.out
    by_cases hlt : k < len
    · have hcell : wr.cell? ⟨g, off + (len - 1 - k), none⟩ = some (bv ((putC l off len n k)[off + (len - 1 - k)]'(by rw [putC_length n hl hk]; omega))) := by
        rw [cell_of_row _ _ _ _ _ _ hh]; simpa using bvs_get _
      have hfro : wr.frozen? ⟨g, off + (len - 1 - k), none⟩ = false := by simp [World.frozen?, hh]
      clear hh
      go_wp2
      go_roundw
      case rel => exact ⟨k + 1, by omega, by go_num, by unfold Hid; rw [hwr.out, ← bv_byteOf, setRow_store Hg.out, putC_step n hl hlt]⟩
      case measure => simp [intOf]; omega
    · obtain rfl : k = len := by omega
      clear hh
      go_wp2
      go_end0
      exact ⟨rfl, hwr.out.symm⟩

/-- One byte more of the sum, as Go reckons it. -/
def fnvStep (n : Int) (b : UInt8) : Int := IntKind.u64.wrap (bits .xor .u64 n b.toNat * 1099511628211)
def fnv (l : List UInt8) : Int := l.foldl fnvStep 14695981039346656037
theorem fnv_bd (l : List UInt8) : 0 ≤ fnv l ∧ fnv l ≤ 18446744073709551615 := by
  have : ∀ (l : List UInt8) (n : Int), 0 ≤ n ∧ n ≤ 18446744073709551615 → 0 ≤ l.foldl fnvStep n ∧ l.foldl fnvStep n ≤ 18446744073709551615 := by
    intro l
    induction l with
    | nil => intro n h; exact h
    | cons b l ih =>
      intro n _
      refine ih _ ?_
      simp [fnvStep, IntKind.wrap, IntKind.bits, IntKind.signed]
      omega
  exact this l _ (by omega)

theorem hsum_any (l : List UInt8) (hl : l.length = 24) (w : World) :
    Calls Try.prog 157 #[.agg (bvs l).toArray] w fun e w' => e = .returned (.int .u64 (fnv (l.take 16))) ∧ Below w.heap.size w w' := by
  go_enter Try.func157, Try.ntmps157
  go_wp2
  go_loop [3, 4, 5] (fun s _ c => ∃ k : Nat, k ≤ 16 ∧ c = .int .i64 k ∧ s = .int .u64 (fnv (l.take k))) (fun _ _ c => 16 - (intOf c).toNat)
  case atStart => exact ⟨0, Nat.zero_le _, rfl, by simp [fnv]⟩
  case round =>
    obtain ⟨k, hk, rfl, rfl⟩ := hrel
    have hb := fnv_bd (l.take k)
    by_cases hlt : k < 16
    · have hcell : (w.alloc (.cells (bvs l).toArray 206)).cell? ⟨w.heap.size, k, none⟩ = some (.int .u8 (l[k]'(by omega)).toNat) := by
        rw [cell_of_row _ _ _ _ _ _ (heap_alloc_last _ _)]; have := bvs_get (l := l) (i := k) (by omega); simpa [bv] using this
      have hb2 := (l[k]'(by omega)).toNat_lt
      go_wp2
      go_round
      case rel => exact ⟨k + 1, by omega, by go_num, by
        rw [List.take_succ_eq_append_getElem (by omega)]
        unfold fnv
        rw [List.foldl_append]
        rfl⟩
      case measure => simp [intOf]; omega
    · obtain rfl : k = 16 := by omega
      go_wp2
      go_ret
      exact ⟨rfl, by (repeat' (first | (with_reducible assumption) | (with_reducible exact Below.refl _ _) | (with_reducible refine below_sc ?_ ?_) | ((with_reducible show (_ : Nat) ≤ _); omega) | refine Below.setCell ?_ (by first | omega | (simp; done) | (simp; omega)) _ | refine Below.alloc ?_ (by first | omega | (simp; done) | (simp; omega)) _ | refine Below.drew ?_ | refine below_drewN ?_ _ | refine Below.trans ?_ (Below.mono (by assumption) (by first | omega | (simp; done) | (simp; omega)))))⟩
end

section
set_option linter.unusedVariables false
open Go.RowKit

theorem put_top {T : TypeId} (l : List UInt8) (off len cap : Nat) (n : Int) (W : World) {H : Nat} (hH : W.heap.size = H)
    (hl : off + len ≤ l.length) (h8 : len ≤ 8) (hc : len ≤ cap) (h0 : 0 ≤ n) (h1 : n ≤ 18446744073709551615) (hs : l.length ≤ 1000000) :
    Calls Try.prog 156 #[.slice (some ⟨H, off, none⟩) len cap, .int .u64 n] (W.alloc (.cells (bvs l).toArray T)) fun e w' => e = .returned (.tuple #[]) ∧ W.alloc (.cells (bvs (putC l off len n len)).toArray T) = w' := by
  subst hH
  have := hput_any T l W.heap.size off len cap n (W.alloc (.cells (bvs l).toArray T)) (heap_alloc_last _ _) hl h8 hc h0 h1 hs
  rwa [World.setRow_alloc_new] at this

def z24 : List UInt8 := [0, 0, 0, 0, 0, 0, 0, 0, 0, 0, 0, 0, 0, 0, 0, 0, 0, 0, 0, 0, 0, 0, 0, 0]
/-- The 16 bytes ahead of the sum. -/
def head16 (s i g : Int) : List UInt8 := beN 1 4 ++ beN s 4 ++ beN i 4 ++ beN g 4
/-- A handle's bytes. -/
def hbytes (s i g : Int) : List UInt8 := head16 s i g ++ beN (fnv (head16 s i g)) 8
theorem head16_length (s i g : Int) : (head16 s i g).length = 16 := by simp [head16, beN_length]
theorem hbytes_length (s i g : Int) : (hbytes s i g).length = 24 := by simp [hbytes, head16_length, beN_length]

theorem head_puts (s i g : Int) : putC (putC (putC (putC z24 0 4 1 4) 4 4 s 4) 8 4 i 4) 12 4 g 4 = head16 s i g ++ [0, 0, 0, 0, 0, 0, 0, 0] := rfl
theorem all_puts (s i g n : Int) : putC (head16 s i g ++ [0, 0, 0, 0, 0, 0, 0, 0]) 16 8 n 8 = head16 s i g ++ beN n 8 := rfl
theorem info24 : (Try.prog.info? 206).map (·.size) = some 24 := by kernel_rfl

set_option maxHeartbeats 400000 in
theorem hwrite_any (s i g : Int) (hs0 : 0 ≤ s) (hs1 : s ≤ 2147483647) (hi0 : 0 ≤ i) (hi1 : i ≤ 2147483647) (hg0 : 0 ≤ g) (hg1 : g ≤ 2147483647) (w : World) :
    Calls Try.prog 141 #[hv s i g] w fun e w' => e = .returned (.agg (bvs (hbytes s i g)).toArray) ∧ Below w.heap.size w w' := by
  unfold hv
  have i0 : ∀ w, (Instr.index 214 (.agg #[.int .i64 1, .int .i64 s, .int .i64 i, .int .i64 g]) (.int .i64 0)).run Try.prog w = .ok (.int .i64 1) w := fun _ => by kernel_rfl
  have i1 : ∀ w, (Instr.index 214 (.agg #[.int .i64 1, .int .i64 s, .int .i64 i, .int .i64 g]) (.int .i64 1)).run Try.prog w = .ok (.int .i64 s) w := fun _ => by kernel_rfl
  have i2 : ∀ w, (Instr.index 214 (.agg #[.int .i64 1, .int .i64 s, .int .i64 i, .int .i64 g]) (.int .i64 2)).run Try.prog w = .ok (.int .i64 i) w := fun _ => by kernel_rfl
  have i3 : ∀ w, (Instr.index 214 (.agg #[.int .i64 1, .int .i64 s, .int .i64 i, .int .i64 g]) (.int .i64 3)).run Try.prog w = .ok (.int .i64 g) w := fun _ => by kernel_rfl
  go_enter Try.func141, Try.ntmps141
  go_wp2
  refine wp_loop_rounds 5 ?_
  rw [rounds_succ]
  go_wp2_with fail
  refine (put_top z24 0 4 24 1 _ (by simp) (by decide) (by decide) (by decide) (by decide) (by decide) (by decide)).mono ?_
  rintro e w' ⟨rfl, rfl⟩
  obtain ⟨L1, h1⟩ : ∃ L, L = putC z24 0 4 1 4 := ⟨_, rfl⟩
  have H1 := Lib.hid h1
  have l1 : L1.length = 24 := by rw [h1, putC_length _ (by decide) (by decide)]; rfl
  rw [← h1]
  clear h1
  go_wp2_with fail
  rw [rounds_succ]
  go_wp2_with fail
  refine (put_top L1 4 4 20 s _ (by simp) (by omega) (by decide) (by decide) hs0 (by omega) (by omega)).mono ?_
  rintro e w' ⟨rfl, rfl⟩
  obtain ⟨L2, h2⟩ : ∃ L, L = putC L1 4 4 s 4 := ⟨_, rfl⟩
  have H2 := Lib.hid h2
  have l2 : L2.length = 24 := by rw [h2, putC_length _ (by omega) (by decide)]; exact l1
  rw [← h2]
  clear h2
  go_wp2_with fail
  rw [rounds_succ]
  go_wp2_with fail
  refine (put_top L2 8 4 16 i _ (by simp) (by omega) (by decide) (by decide) hi0 (by omega) (by omega)).mono ?_
  rintro e w' ⟨rfl, rfl⟩
  obtain ⟨L3, h3⟩ : ∃ L, L = putC L2 8 4 i 4 := ⟨_, rfl⟩
  have H3 := Lib.hid h3
  have l3 : L3.length = 24 := by rw [h3, putC_length _ (by omega) (by decide)]; exact l2
  rw [← h3]
  clear h3
  go_wp2_with fail
  rw [rounds_succ]
  go_wp2_with fail
  refine (put_top L3 12 4 12 g _ (by simp) (by omega) (by decide) (by decide) hg0 (by omega) (by omega)).mono ?_
  rintro e w' ⟨rfl, rfl⟩
  have h4 : putC L3 12 4 g 4 = head16 s i g ++ [0, 0, 0, 0, 0, 0, 0, 0] := by rw [H3.out, H2.out, H1.out]; exact head_puts s i g
  rw [h4]
  clear H1 H2 H3 l1 l2 l3 h4 i0 i1 i2 i3
  go_wp2_with fail
  rw [rounds_succ]
  go_wp2_with fail
  have hz : ((w.alloc (.cells #[.int .i64 s, .int .i64 i, .int .i64 g] 32)).alloc (.cells (bvs z24).toArray 206)).heap.size = w.heap.size + 2 := by simp
  change Code.wp _ _ _ _ (((w.alloc (.cells #[.int .i64 s, .int .i64 i, .int .i64 g] 32)).alloc (.cells (bvs z24).toArray 206)).alloc _)
  have hB : Below w.heap.size w ((w.alloc (.cells #[.int .i64 s, .int .i64 i, .int .i64 g] 32)).alloc (.cells (bvs z24).toArray 206)) := by (repeat' (first | (with_reducible assumption) | (with_reducible exact Below.refl _ _) | (with_reducible refine below_sc ?_ ?_) | ((with_reducible show (_ : Nat) ≤ _); omega) | refine Below.setCell ?_ (by first | omega | (simp; done) | (simp; omega)) _ | refine Below.alloc ?_ (by first | omega | (simp; done) | (simp; omega)) _ | refine Below.drew ?_ | refine below_drewN ?_ _ | refine Below.trans ?_ (Below.mono (by assumption) (by first | omega | (simp; done) | (simp; omega)))))
  have hr : ((w.alloc (.cells #[.int .i64 s, .int .i64 i, .int .i64 g] 32)).alloc (.cells (bvs z24).toArray 206)).heap[w.heap.size + 1]? = some (.cells (bvs z24).toArray 206 (0, 0)) := heap_alloc2_new _ _ _
  generalize (w.alloc (.cells #[.int .i64 s, .int .i64 i, .int .i64 g] 32)).alloc (.cells (bvs z24).toArray 206) = W at *
  generalize hW : W.alloc (.cells (bvs (head16 s i g ++ [0, 0, 0, 0, 0, 0, 0, 0])).toArray 206) = W3
  have hz3 : w.heap.size + 3 ≤ W3.heap.size := by rw [← hW]; simp; omega
  have hb3 : W3.heap[w.heap.size + 1 + 1]? = some (.cells (bvs (head16 s i g ++ [0, 0, 0, 0, 0, 0, 0, 0])).toArray 206 (0, 0)) := by rw [← hW, ← hz]; exact heap_alloc_last _ _
  have hr3 : W3.heap[w.heap.size + 1]? = some (.cells (bvs z24).toArray 206 (0, 0)) := by rw [← hW, Below.heap_alloc _ _ _ (by omega)]; exact hr
  have hB3 : Below w.heap.size w W3 := by rw [← hW]; exact hB.alloc (by omega) _
  clear hW hz hr hB
  have hsz : (head16 s i g ++ [0, 0, 0, 0, 0, 0, 0, 0]).length = 24 := by simp [head16_length]
  have hld : ∀ w', (∃ e : ExtOf (w.heap.size + 3) W3, w' = e.val) → (Instr.loadAt 206 (.pointer (some ⟨w.heap.size + 1 + 1, 0, none⟩))).run Try.prog w' = .ok (.agg (bvs (head16 s i g ++ [0, 0, 0, 0, 0, 0, 0, 0])).toArray) w' := by
    rintro _ ⟨e, rfl⟩
    exact loadAt_row ((e.ok.block _ (by omega)).trans hb3) Try.underlying206 (by rw [info24, bvs_size, hsz])
  have Hld := Lib.hid hld
  clear hld
  have Hb := Lib.hid hb3
  have Hr := Lib.hid hr3
  clear hb3 hr3
  refine wp_region_ext_tail (w.heap.size + 3) 3 (by kernel_rfl) (by kernel_rfl) ?_
  simp only [List.take_succ_cons, List.take_zero, List.drop_succ_cons, List.drop_zero]
  repeat (first | (go_big_quiet_want; refine quiet_ld 206 (.tmp 3) rfl Hld.out ?_; go_simp; go_big_quiet_on) | go_big_quiet_step ((go_at_call 157; exact ext_of hz3 (hsum_any _ hsz _))))
  refine wpQuiet_nil ?_
  rintro W4 ⟨⟨_, hB4⟩, rfl⟩
  have hb4 := (hB4.block (w.heap.size + 1 + 1) (by omega)).trans Hb.out
  have hr4 := (hB4.block (w.heap.size + 1) (by omega)).trans Hr.out
  have hB4 := hB3.trans (hB4.mono (by omega))
  have Hb4 := Lib.hid hb4
  have Hr4 := Lib.hid hr4
  have e16 : (head16 s i g ++ [0, 0, 0, 0, 0, 0, 0, 0]).take 16 = head16 s i g := by rw [List.take_left' (head16_length _ _ _)]
  have hf := fnv_bd (head16 s i g)
  rw [e16]
  clear hb4 hr4 Hb Hr Hld hB3 e16
  go_wp2_with fail
  refine (hput_any _ _ _ 16 8 8 _ _ Hb4.out (by omega) (by decide) (by decide) hf.1 hf.2 (by omega)).mono ?_
  rintro e w' ⟨rfl, rfl⟩
  rw [all_puts]
  have hb5 := setRow_heap W4 _ _ (bvs (head16 s i g ++ beN (fnv (head16 s i g)) 8)).toArray _ _ Hb4.out
  have hr5 : (W4.setRow (w.heap.size + 1 + 1) (bvs (head16 s i g ++ beN (fnv (head16 s i g)) 8)).toArray).heap[w.heap.size + 1]? = _ := (setRow_other W4 _ _ _ (by omega)).trans Hr4.out
  have hB5 := below_setRow hB4 (g := w.heap.size + 1 + 1) (by omega) (bvs (head16 s i g ++ beN (fnv (head16 s i g)) 8)).toArray
  have hl5 : (head16 s i g ++ beN (fnv (head16 s i g)) 8).length = 24 := hbytes_length s i g
  generalize W4.setRow (w.heap.size + 1 + 1) (bvs (head16 s i g ++ beN (fnv (head16 s i g)) 8)).toArray = W5 at *
  have hld : (Instr.loadAt 206 (.pointer (some ⟨w.heap.size + 1 + 1, 0, none⟩))).run Try.prog W5 = .ok (.agg (bvs (head16 s i g ++ beN (fnv (head16 s i g)) 8)).toArray) W5 :=
    loadAt_row hb5 Try.underlying206 (by rw [info24, bvs_size, hl5])
  have hst : (Instr.storeAt 206 (.pointer (some ⟨w.heap.size + 1, 0, none⟩)) (.agg (bvs (head16 s i g ++ beN (fnv (head16 s i g)) 8)).toArray)).run Try.prog W5 = .ok () (W5.setRow (w.heap.size + 1) (bvs (head16 s i g ++ beN (fnv (head16 s i g)) 8)).toArray) :=
    storeAt_row hr5 (by rw [info24, bvs_size, hl5]) (by rw [bvs_size, bvs_size, hl5]; rfl) (oneCells _)
  have Hld := Lib.hid hld
  have Hst := Lib.hid hst
  have hr6 := setRow_heap W5 _ _ (bvs (head16 s i g ++ beN (fnv (head16 s i g)) 8)).toArray _ _ hr5
  have hB6 := below_setRow hB5 (g := w.heap.size + 1) (by omega) (bvs (head16 s i g ++ beN (fnv (head16 s i g)) 8)).toArray
  have Hr6 := Lib.hid hr6
  clear hr6 hb5 hr5 Hb4 Hr4 hld hst
  go_wp2_with (first | (refine wpList_ld rfl 206 (.tmp 3) rfl Hld.out ?_; simp only [Act.put]) | (refine wpList_st rfl 206 (.tmp 2) (.tmp 31) rfl Hst.out ?_; simp only [Act.put]))

  refine bodyPost_ret (v := .agg (bvs (hbytes s i g)).toArray) (results_cell_row Try.results141 _ _ _ _ _ _ _ rfl Hr6.out Try.underlying206 rfl (by rw [info24, bvs_size, hbytes_length])) rfl ⟨rfl, hB6⟩
end

section
set_option linter.unusedVariables false
open Go.RowKit

theorem hmayB_spec {s i g : Int} (h : hmayB s i g = true) : 0 ≤ s ∧ s ≤ 2147483647 ∧ 1 ≤ i ∧ i ≤ 2147483647 ∧ 0 ≤ g ∧ g ≤ 2147483647 := by simpa [hmayB] using h

theorem encode_no (s i g : Int) (h : hmayB s i g = false) (w : World) :
    Calls Try.prog 96 #[hv s i g] w fun e w' => e = .returned (.tuple #[.string ⟨#[]⟩, .int .i64 4]) ∧ Below w.heap.size w w' := by
  have H := Lib.hid h
  clear h
  unfold hv
  go_enter Try.func96, Try.ntmps96
  go_wp2_with (go_at_call 140; refine (hmay_any s i g _).mono ?_; rintro e w1 ⟨rfl, hb⟩; rw [H.out])
  go_ret2
  exact ⟨rfl, ((Below.refl _ _).alloc (Nat.le_refl _) _).trans (hb.mono (by simp))⟩

theorem encode_yes (s i g : Int) (h : hmayB s i g = true) (w : World) :
    Calls Try.prog 96 #[hv s i g] w fun e w' => e = .returned (.tuple #[.string (str (hbytes s i g)), .int .i64 0]) ∧ Below w.heap.size w w' := by
  have hs := hmayB_spec h
  have H := Lib.hid h
  clear h
  unfold hv
  go_enter Try.func96, Try.ntmps96
  go_wp2_with (go_at_call 140; refine (hmay_any s i g _).mono ?_; rintro e w1 ⟨rfl, hb⟩; rw [H.out]; obtain ⟨hc, hf⟩ := bcell hb)
  have hz : w.heap.size + 1 ≤ w1.heap.size := by have := hb.size; simpa using this
  go_wp2_with fail
  refine (hwrite_any s i g (by omega) (by omega) (by omega) (by omega) (by omega) (by omega) _).mono ?_
  rintro e w2 ⟨rfl, hb2⟩
  go_wp2_with (refine wpList_st rfl 206 (.tmp 4) (.tmp 9) rfl (storeAt_row (heap_alloc_last _ _) (by rw [info24, bvs_size, hbytes_length]) (by rw [bvs_size, hbytes_length]; rfl) (oneCells _)) ?_; rw [World.setRow_alloc_new]; simp only [Act.put])
  rw [conv_row Try.underlying47 Try.underlying5 Try.underlying9 (heap_alloc_last _ _) (hbytes_length _ _ _)]
  go_wp2
  go_ret2
  exact ⟨rfl, (((Below.refl _ _).alloc (Nat.le_refl _) _).trans (hb.mono (by simp))).trans ((hb2.mono (by omega)).alloc (by have := hb2.size; omega) _)⟩

theorem rencode_no (s i g : Int) (h : hmayB s i g = false) (w : World) :
    Calls Try.prog 67 #[hv s i g] w fun e w' => e = .returned (.tuple #[.string ⟨#[]⟩, .int .i64 4]) ∧ Below w.heap.size w w' := by
  have H := Lib.hid h
  clear h
  unfold hv
  go_enter Try.func67, Try.ntmps67
  go_wp2_with (go_at_call 119; refine (hrmay_any s i g _).mono ?_; rintro e w1 ⟨rfl, hb⟩; rw [H.out])
  go_ret2
  exact ⟨rfl, ((Below.refl _ _).alloc (Nat.le_refl _) _).trans (hb.mono (by simp))⟩

theorem be4_length (n : Int) : (be4 n).length = 4 := rfl
theorem byteOf_congr {a b : Int} (h : a % 256 = b % 256) : byteOf a = byteOf b := by unfold byteOf; rw [h]
theorem be4_beN (n : Int) (h0 : 0 ≤ n) (h1 : n ≤ 18446744073709551615) : be4 (n / 4294967296) ++ be4 (n % 4294967296) = beN n 8 := by
  simp only [be4, beN, List.cons_append, List.nil_append, List.cons.injEq, and_true]
  refine ⟨?_, ?_, ?_, ?_, ?_, ?_, ?_, ?_⟩ <;> (refine byteOf_congr ?_; simp <;> omega)
theorem rencode_yes (s i g : Int) (h : hmayB s i g = true) (w : World) :
    Calls Try.prog 67 #[hv s i g] w fun e w' => e = .returned (.tuple #[.string (str (hbytes s i g)), .int .i64 0]) ∧ Below w.heap.size w w' := by
  have hs := hmayB_spec h
  have H := Lib.hid h
  clear h
  unfold hv
  go_enter Try.func67, Try.ntmps67
  go_wp2_with (go_at_call 119; refine (hrmay_any s i g _).mono ?_; rintro e w1 ⟨rfl, hb⟩; rw [H.out]; obtain ⟨hc, hf⟩ := bcell hb)
  have hz : w.heap.size + 1 ≤ w1.heap.size := by have := hb.size; simpa using this
  have hb : Below w.heap.size w w1 := ((Below.refl _ _).alloc (Nat.le_refl _) _).trans (hb.mono (by simp))
  have c0 : ∀ e : ExtOf (w.heap.size + 1) w1, e.val.cell? ⟨w.heap.size, 0, none⟩ = some (.int .i64 s) := fun e => e.cell (by rw [hc _ _ (by simp)]; go_simp) (by simp)
  have c1 : ∀ e : ExtOf (w.heap.size + 1) w1, e.val.cell? ⟨w.heap.size, 1, none⟩ = some (.int .i64 i) := fun e => e.cell (by rw [hc _ _ (by simp)]; go_simp) (by simp)
  have c2 : ∀ e : ExtOf (w.heap.size + 1) w1, e.val.cell? ⟨w.heap.size, 2, none⟩ = some (.int .i64 g) := fun e => e.cell (by rw [hc _ _ (by simp)]; go_simp) (by simp)
  have ss := fun l => str_size l
  have s4 := fun n => be4_length n
  have sa := fun a b => str_append a b
  refine wp_region_ext (w.heap.size + 1) (by kernel_rfl) (by kernel_rfl) ?_
  repeat (go_big_quiet_step ((go_at_call 120; exact ext_of hz (hword_any _ _ (by omega) (by omega)))))
  refine wpQuiet_nil ?_
  rintro w2 ⟨⟨_, hb2⟩, rfl⟩
  have eh : be4 1 ++ (be4 s ++ (be4 i ++ be4 g)) = head16 s i g := by simp [head16, be4, beN]
  go_wp2_with fail
  rw [eh]
  obtain ⟨L, hL⟩ : ∃ L, L = head16 s i g := ⟨_, rfl⟩
  have l16 : L.length = 16 := by rw [hL]; exact head16_length _ _ _
  rw [← hL]
  have HL := Lib.hid hL
  clear hL eh c0 c1 c2 hc hf
  have hsz : (str L).size = 16 := by rw [str_size, l16]
  go_loop [5, 6] (fun n c => ∃ k : Nat, k ≤ 16 ∧ c = .int .i64 k ∧ n = .int .u64 (fnv (L.take k))) (fun _ c => 16 - (intOf c).toNat)
  case atStart => exact ⟨0, Nat.zero_le _, rfl, by simp [fnv]⟩
  case round =>
    obtain ⟨k, hk, rfl, rfl⟩ := hrel
    by_cases hlt : k < 16
    · have hb2 := (L[k]'(by omega)).toNat_lt
      have hks : k < (str L).size := by omega
      have hget : (str L)[k] = L[k]'(by omega) := rfl
      have hlt' : (k : Int) < 16 := by omega
      go_wp2
      go_round
      case rel => exact ⟨k + 1, by omega, by go_num, by
        rw [List.take_succ_eq_append_getElem (by omega)]
        unfold fnv
        rw [List.foldl_append]
        rfl⟩
      case measure => simp [intOf]; omega
    · obtain rfl : k = 16 := by omega
      rw [show L.take 16 = L from by rw [← l16, List.take_length]]
      have hf := fnv_bd L
      have e8 := be4_beN (fnv L) hf.1 hf.2
      have H8 := Lib.hid e8
      clear e8
      go_wp2_with (go_at_call 120; refine (hword_any _ _ (by omega) (by omega)).mono ?_; rintro e w3 ⟨rfl, hb3⟩; have hz3 := hb3.size; (try simp only [World.size_alloc] at hz3))
      go_ret2
      refine ⟨?_, ?_⟩
      · rw [H8.out, HL.out]; rfl
      · have hz2 := hb2.size
        (repeat' (first | (with_reducible assumption) | (with_reducible exact Below.refl _ _) | (with_reducible refine below_sc ?_ ?_) | ((with_reducible show (_ : Nat) ≤ _); omega) | refine Below.setCell ?_ (by first | omega | (simp; done) | (simp; omega)) _ | refine Below.alloc ?_ (by first | omega | (simp; done) | (simp; omega)) _ | refine Below.drew ?_ | refine below_drewN ?_ _ | refine Below.trans ?_ (Below.mono (by assumption) (by first | omega | (simp; done) | (simp; omega)))))
end

section
set_option linter.unusedVariables false
open Go.RowKit

/-- The number of the first k of the bytes from o on. -/
def pre (l : List UInt8) (o : Nat) : Nat → Int
  | 0 => 0
  | k + 1 => pre l o k * 256 + (l[o + k]?.getD 0).toNat
def n4 (l : List UInt8) (o : Nat) : Int := pre l o 4
theorem pre_bd (l : List UInt8) (o : Nat) : ∀ k, 0 ≤ pre l o k ∧ pre l o k < 256 ^ k
  | 0 => by simp [pre]
  | k + 1 => by
    have h := pre_bd l o k
    have hb := (l[o + k]?.getD 0).toNat_lt
    simp only [pre, Int.pow_succ]
    generalize (256 : Int) ^ k = p at *
    omega

/-- The handle of bytes. -/
def dec (l : List UInt8) : Option (Int × Int × Int) :=
  if l.length = 24 ∧ hmayB (n4 l 4) (n4 l 8) (n4 l 12) = true ∧ hbytes (n4 l 4) (n4 l 8) (n4 l 12) = l then some (n4 l 4, n4 l 8, n4 l 12) else none
/-- What Decode hands back. -/
def decV (l : List UInt8) : Value := match dec l with
  | some (a, b, c) => .tuple #[hv a b c, .int .i64 0]
  | none => .tuple #[hv 0 0 0, .int .i64 4]

/-- The four numbers, the first i of them read. -/
def rds (l : List UInt8) (i : Nat) : List Value := (List.range 4).map fun k => Value.int .i64 (if k < i then n4 l (4 * k) else 0)

def rdj (l : List UInt8) (i j : Nat) : List Value := (List.range 4).map fun k => Value.int .i64 (if k < i then n4 l (4 * k) else if k = i then pre l (4 * i) j else 0)
theorem rdj_zero (l : List UInt8) (i : Nat) : rdj l i 0 = rds l i := by
  refine List.map_congr_left fun k _ => ?_
  simp [pre]
theorem rdj_four (l : List UInt8) (i : Nat) : rdj l i 4 = rds l (i + 1) := by
  refine List.map_congr_left fun k _ => ?_
  congr 1
  by_cases h : k < i
  · rw [if_pos h, if_pos (by omega)]
  · by_cases h2 : k = i
    · subst h2; simp [n4]
    · rw [if_neg h, if_neg h2, if_neg (by omega)]
theorem rdj_get (l : List UInt8) (i j : Nat) (h : i < 4) : (rdj l i j)[i]? = some (.int .i64 (pre l (4 * i) j)) := by
  unfold rdj
  rw [List.getElem?_map, List.getElem?_range h]
  simp
theorem rdj_set (l : List UInt8) (i j : Nat) (h : i < 4) : (rdj l i j).set i (.int .i64 (pre l (4 * i) (j + 1))) = rdj l i (j + 1) := by
  apply List.ext_getElem?
  intro k
  rw [List.getElem?_set]
  unfold rdj
  by_cases hk : k < 4
  · simp only [List.getElem?_map, List.getElem?_range hk, List.length_map, List.length_range]
    by_cases hik : i = k
    · subst hik; simp [h]
    · have : ¬ k = i := fun e => hik e.symm
      simp [hik, this]
  · have hn : (List.range 4)[k]? = none := by simp; omega
    simp only [List.getElem?_map, hn, Option.map_none]
    rw [if_neg (by omega)]

theorem decode_short (l : List UInt8) (hl : l.length ≠ 24) (h63 : l.length ≤ 9223372036854775807) (w : World) :
    Calls Try.prog 149 #[.string (str l)] w fun e w' => e = .returned (decV l) ∧ Below w.heap.size w w' := by
  have hd : decV l = .tuple #[hv 0 0 0, .int .i64 4] := by unfold decV dec; rw [if_neg (fun h => hl h.1)]
  rw [hd]
  have hs : (str l).size = l.length := str_size l
  have hn : (((str l).size : Int) != 24) = true := by rw [hs, bne_iff_ne]; omega
  have hn2 : (((l.length : Nat) : Int) != 24) = true := by rw [bne_iff_ne]; omega
  unfold hv
  go_enter Try.func149, Try.ntmps149
  go_wp2
  exact bodyPost_ret (v := .tuple #[hv 0 0 0, .int .i64 4]) (by simp [results, Try.results149, go_sem]; rfl) rfl ⟨rfl, by (repeat' (first | (with_reducible assumption) | (with_reducible exact Below.refl _ _) | (with_reducible refine below_sc ?_ ?_) | ((with_reducible show (_ : Nat) ≤ _); omega) | refine Below.setCell ?_ (by first | omega | (simp; done) | (simp; omega)) _ | refine Below.alloc ?_ (by first | omega | (simp; done) | (simp; omega)) _ | refine Below.drew ?_ | refine below_drewN ?_ _ | refine Below.trans ?_ (Below.mono (by assumption) (by first | omega | (simp; done) | (simp; omega)))))⟩

theorem decode_long (l : List UInt8) (hl : l.length = 24) (w : World) :
    Calls Try.prog 149 #[.string (str l)] w fun e w' => e = .returned (decV l) ∧ Below w.heap.size w w' := by
  have hs : (str l).size = 24 := by rw [str_size, hl]
  obtain ⟨R, hR⟩ : ∃ R, R = decV l := ⟨_, rfl⟩
  rw [← hR]
  have HR := Lib.hid hR
  clear hR
  go_enter Try.func149, Try.ntmps149
  go_wp2
  have hB0 : Below w.heap.size w (w.alloc (.cells #[.int .i64 0, .int .i64 0, .int .i64 0] 32)) := by (repeat' (first | (with_reducible assumption) | (with_reducible exact Below.refl _ _) | (with_reducible refine below_sc ?_ ?_) | ((with_reducible show (_ : Nat) ≤ _); omega) | refine Below.setCell ?_ (by first | omega | (simp; done) | (simp; omega)) _ | refine Below.alloc ?_ (by first | omega | (simp; done) | (simp; omega)) _ | refine Below.drew ?_ | refine below_drewN ?_ _ | refine Below.trans ?_ (Below.mono (by assumption) (by first | omega | (simp; done) | (simp; omega)))))
  have hz0 : (w.alloc (.cells #[.int .i64 0, .int .i64 0, .int .i64 0] 32)).heap.size = w.heap.size + 1 := by simp
  have hr0 : (w.alloc (.cells #[.int .i64 0, .int .i64 0, .int .i64 0] 32)).heap[w.heap.size]? = some (.cells #[.int .i64 0, .int .i64 0, .int .i64 0] 32 (0, 0)) := heap_alloc_last _ _
  generalize w.alloc (.cells #[.int .i64 0, .int .i64 0, .int .i64 0] 32) = W at *
  go_loopw [13] (fun c wr => ∃ i : Nat, i ≤ 4 ∧ c = .int .i64 i ∧ wr.heap[w.heap.size + 1]? = some (.cells (rds l i).toArray 214 (0, 0)) ∧ Below (w.heap.size + 1) W wr) (fun c _ => 4 - (intOf c).toNat)
  case atStart => exact ⟨0, Nat.zero_le _, rfl, by rw [← hz0]; exact heap_alloc_last _ _, by (repeat' (first | (with_reducible assumption) | (with_reducible exact Below.refl _ _) | (with_reducible refine below_sc ?_ ?_) | ((with_reducible show (_ : Nat) ≤ _); omega) | refine Below.setCell ?_ (by first | omega | (simp; done) | (simp; omega)) _ | refine Below.alloc ?_ (by first | omega | (simp; done) | (simp; omega)) _ | refine Below.drew ?_ | refine below_drewN ?_ _ | refine Below.trans ?_ (Below.mono (by assumption) (by first | omega | (simp; done) | (simp; omega)))))⟩
  case round =>
    obtain ⟨i, hi, rfl, hh, hB⟩ := hrel
    have Hh := Lib.hid hh
    clear hh
    by_cases hlt : i < 4
    · have hlt' : (i : Int) < 4 := by omega
      go_wp2
      obtain ⟨wo, rfl⟩ : ∃ wo : World, wo = wr := ⟨_, rfl⟩
      go_loopw [16] (fun c wr => ∃ j : Nat, j ≤ 4 ∧ c = .int .i64 j ∧ wr.heap[w.heap.size + 1]? = some (.cells (rdj l i j).toArray 214 (0, 0)) ∧ Below (w.heap.size + 1) W wr) (fun c _ => 4 - (intOf c).toNat)
      case atStart => exact ⟨0, Nat.zero_le _, rfl, by rw [rdj_zero]; exact Hh.out, hB⟩
      case round =>
        obtain ⟨j, hj, rfl, hh2, hB2⟩ := hrel
        by_cases hlt2 : j < 4
        · have hlt2' : (j : Int) < 4 := by omega
          have hx := pre_bd l (4 * i) j
          have hx2 : pre l (4 * i) j < 16777216 := by
            have : j = 0 ∨ j = 1 ∨ j = 2 ∨ j = 3 := by omega
            rcases this with rfl | rfl | rfl | rfl <;> omega
          have hcell : wr.cell? ⟨w.heap.size + 1, i, none⟩ = some (.int .i64 (pre l (4 * i) j)) := by rw [cell_of_row _ _ _ _ _ _ hh2]; simpa using rdj_get l i j hlt
          have hfro : wr.frozen? ⟨w.heap.size + 1, i, none⟩ = false := by simp [World.frozen?, hh2]
          have hi0 : (0 : Int) ≤ (i : Int) * 4 + j := by omega
          have hi1 : (i : Int) * 4 + j < 24 := by omega
          have hi2 : ((i : Int) * 4 + j).toNat = i * 4 + j := by omega
          have hks : i * 4 + j < (str l).size := by omega
          have hb := ((str l)[i * 4 + j]).toNat_lt
          have hv : bits BinOp.or IntKind.i64 (pre l (4 * i) j * 256) ((str l)[i * 4 + j]).toNat = pre l (4 * i) (j + 1) := by
            rw [or_byte _ _ hx.1 (by omega) (by omega) (by omega)]
            have e : (str l)[i * 4 + j] = l[4 * i + j]'(by omega) := by rw [str_get]; congr 1; omega
            rw [e, pre, List.getElem?_eq_getElem (by omega)]
            rfl
          have Hv := Lib.hid hv
          have Hh2 := Lib.hid hh2
          clear hv hh2
          go_wp2
          go_region
          go_wp2
          go_roundw
          case rel =>
            refine ⟨j + 1, by omega, by go_num, ?_, by (repeat' (first | (with_reducible assumption) | (with_reducible exact Below.refl _ _) | (with_reducible refine below_sc ?_ ?_) | ((with_reducible show (_ : Nat) ≤ _); omega) | refine Below.setCell ?_ (by first | omega | (simp; done) | (simp; omega)) _ | refine Below.alloc ?_ (by first | omega | (simp; done) | (simp; omega)) _ | refine Below.drew ?_ | refine below_drewN ?_ _ | refine Below.trans ?_ (Below.mono (by assumption) (by first | omega | (simp; done) | (simp; omega)))))⟩
            rw [Hv.out, heap_drew, heap_setCell_same _ _ _ _ _ _ Hh2.out, ← rdj_set l i j hlt]
            simp
          case measure => simp [intOf]; omega
        · obtain rfl : j = 4 := by omega
          rw [rdj_four] at hh2
          have Hh2 := Lib.hid hh2
          clear hh2
          go_wp2
          go_roundw
          case rel => exact ⟨i + 1, by omega, by go_num, Hh2.out, hB2⟩
          case measure => simp [intOf]; omega
    · obtain rfl : i = 4 := by omega
      have h4 : rds l 4 = [.int .i64 (n4 l 0), .int .i64 (n4 l 4), .int .i64 (n4 l 8), .int .i64 (n4 l 12)] := rfl
      have hh : wr.heap[w.heap.size + 1]? = some (.cells #[.int .i64 (n4 l 0), .int .i64 (n4 l 4), .int .i64 (n4 l 8), .int .i64 (n4 l 12)] 214 (0, 0)) := by rw [Hh.out, h4]
      have hr := (hB.block w.heap.size (by omega)).trans hr0
      have c1 : wr.cell? ⟨w.heap.size + 1, 1, none⟩ = some (.int .i64 (n4 l 4)) := by rw [cell_of_row _ _ _ _ _ _ hh]; rfl
      have c2 : wr.cell? ⟨w.heap.size + 1, 2, none⟩ = some (.int .i64 (n4 l 8)) := by rw [cell_of_row _ _ _ _ _ _ hh]; rfl
      have c3 : wr.cell? ⟨w.heap.size + 1, 3, none⟩ = some (.int .i64 (n4 l 12)) := by rw [cell_of_row _ _ _ _ _ _ hh]; rfl
      have hz : w.heap.size + 2 ≤ wr.heap.size := by
        have := (Array.getElem?_eq_some_iff.1 hh).1
        omega
      have hBw : Below w.heap.size w wr := hB0.trans (hB.mono (by omega))
      have r0 : wr.cell? ⟨w.heap.size, 0, none⟩ = some (.int .i64 0) := by rw [cell_of_row _ _ _ _ _ _ hr]; rfl
      have r1 : wr.cell? ⟨w.heap.size, 1, none⟩ = some (.int .i64 0) := by rw [cell_of_row _ _ _ _ _ _ hr]; rfl
      have r2 : wr.cell? ⟨w.heap.size, 2, none⟩ = some (.int .i64 0) := by rw [cell_of_row _ _ _ _ _ _ hr]; rfl
      have f0 : wr.frozen? ⟨w.heap.size, 0, none⟩ = false := by simp [World.frozen?, hr]
      have f1 : wr.frozen? ⟨w.heap.size, 1, none⟩ = false := by simp [World.frozen?, hr]
      have f2 : wr.frozen? ⟨w.heap.size, 2, none⟩ = false := by simp [World.frozen?, hr]
      have hs0 : w.heap.size < wr.heap.size := by omega
      have hs1 : w.heap.size < wr.heap.size + 1 := by omega
      have hs2 : ¬ w.heap.size = wr.heap.size := by omega
      clear hh hr h4 Hh hB hB0 hz0 hr0
      have hR := HR.out
      unfold decV dec at hR
      generalize n4 l 4 = A at *
      generalize n4 l 8 = B at *
      generalize n4 l 12 = C at *
      by_cases hm : hmayB A B C = true
      · have hs3 := hmayB_spec hm
        have Hm := Lib.hid hm
        have HR3 := Lib.hid hR
        clear hR hm HR
        go_wp2_with fail
        refine (hmay_any A B C _).mono ?_
        rintro e w1 ⟨rfl, hb⟩
        rw [Hm.out]
        obtain ⟨hc, hf⟩ := bcell hb
        have hz1 := hb.size
        simp only [World.size_alloc] at hz1
        have hz2 : wr.heap.size < w1.heap.size := by omega
        have hz3 : w.heap.size < w1.heap.size := by omega
        go_wp2_with fail
        refine (hwrite_any A B C (by omega) (by omega) (by omega) (by omega) (by omega) (by omega) _).mono ?_
        rintro e w2 ⟨rfl, hb2⟩
        obtain ⟨hc2, hf2⟩ := bcell hb2
        have hz4 := hb2.size
        have hz5 : wr.heap.size < w2.heap.size := by omega
        have hz6 : w.heap.size < w2.heap.size := by omega
        have q0 : w2.cell? ⟨w.heap.size, 0, none⟩ = some (.int .i64 0) := by rw [hc2 _ _ hz3, hc _ _ (by simp; omega)]; go_simp
        have q1 : w2.cell? ⟨w.heap.size, 1, none⟩ = some (.int .i64 0) := by rw [hc2 _ _ hz3, hc _ _ (by simp; omega)]; go_simp
        have q2 : w2.cell? ⟨w.heap.size, 2, none⟩ = some (.int .i64 0) := by rw [hc2 _ _ hz3, hc _ _ (by simp; omega)]; go_simp
        go_wp2_with (refine wpList_st rfl 206 (.tmp 8) (.tmp 47) rfl (storeAt_row (heap_alloc_last _ _) (by rw [info24, bvs_size, hbytes_length]) (by rw [bvs_size, hbytes_length]; rfl) (oneCells _)) ?_; rw [World.setRow_alloc_new]; simp only [Act.put])
        rw [conv_row Try.underlying47 Try.underlying5 Try.underlying9 (heap_alloc_last _ _) (hbytes_length _ _ _)]
        go_wp2
        · rename_i hne
          have hne' : ¬ hbytes A B C = l := by
            intro h
            rw [h] at hne
            simp at hne
          have hR : R = .tuple #[hv 0 0 0, .int .i64 4] := by rw [HR3.out, if_neg (fun h => hne' h.2.2)]
          refine bodyPost_ret (v := R) (by rw [hR]; simp only [results, Try.results149]; go_simp; rfl) rfl ⟨rfl, ?_⟩
          (repeat' (first | (with_reducible assumption) | (with_reducible exact Below.refl _ _) | (with_reducible refine below_sc ?_ ?_) | ((with_reducible show (_ : Nat) ≤ _); omega) | refine Below.setCell ?_ (by first | omega | (simp; done) | (simp; omega)) _ | refine Below.alloc ?_ (by first | omega | (simp; done) | (simp; omega)) _ | refine Below.drew ?_ | refine below_drewN ?_ _ | refine Below.trans ?_ (Below.mono (by assumption) (by first | omega | (simp; done) | (simp; omega)))))
        · rename_i hne
          have hne' : hbytes A B C = l := by
            simpa [strL] using hne
          have hR : R = .tuple #[hv A B C, .int .i64 0] := by rw [HR3.out, if_pos ⟨hl, Hm.out, hne'⟩]
          refine bodyPost_ret (v := R) (by rw [hR]; simp only [results, Try.results149]; go_simp; rfl) rfl ⟨rfl, ?_⟩
          (repeat' (first | (with_reducible assumption) | (with_reducible exact Below.refl _ _) | (with_reducible refine below_sc ?_ ?_) | ((with_reducible show (_ : Nat) ≤ _); omega) | refine Below.setCell ?_ (by first | omega | (simp; done) | (simp; omega)) _ | refine Below.alloc ?_ (by first | omega | (simp; done) | (simp; omega)) _ | refine Below.drew ?_ | refine below_drewN ?_ _ | refine Below.trans ?_ (Below.mono (by assumption) (by first | omega | (simp; done) | (simp; omega)))))
      · have hm' : hmayB A B C = false := by simpa using hm
        have hR2 : R = .tuple #[hv 0 0 0, .int .i64 4] := by rw [hR, if_neg (fun h => hm h.2.1)]
        have Hm := Lib.hid hm'
        have HR2 := Lib.hid hR2
        clear hR hm hm' hR2 HR
        go_wp2_with fail
        refine (hmay_any A B C _).mono ?_
        rintro e w1 ⟨rfl, hb⟩
        rw [Hm.out]
        obtain ⟨hc, hf⟩ := bcell hb
        have hz1 := hb.size
        simp only [World.size_alloc] at hz1
        go_wp2
        have hz9 : w.heap.size < w1.heap.size := by omega
        refine bodyPost_ret (v := R) (by rw [HR2.out]; simp [results, Try.results149, go_sem, hc, r0, r1, r2, hs0, hs1]; rfl) rfl ⟨rfl, ?_⟩
        (repeat' (first | (with_reducible assumption) | (with_reducible exact Below.refl _ _) | (with_reducible refine below_sc ?_ ?_) | ((with_reducible show (_ : Nat) ≤ _); omega) | refine Below.setCell ?_ (by first | omega | (simp; done) | (simp; omega)) _ | refine Below.alloc ?_ (by first | omega | (simp; done) | (simp; omega)) _ | refine Below.drew ?_ | refine below_drewN ?_ _ | refine Below.trans ?_ (Below.mono (by assumption) (by first | omega | (simp; done) | (simp; omega)))))
end

section
set_option linter.unusedVariables false
open Go.RowKit

theorem num4_pre : ∀ (m : List UInt8) (hm : m.length = 4), num4 ((str m)[0]'(by rw [str_size]; omega)) ((str m)[1]'(by rw [str_size]; omega)) ((str m)[2]'(by rw [str_size]; omega)) ((str m)[3]'(by rw [str_size]; omega)) = pre m 0 4
  | [a, b, c, d], _ => by
    simp [pre, num4, str_get]
    omega
theorem number_l (m : List UInt8) (hm : m.length = 4) (w : World) : Calls Try.prog 152 #[.string (str m)] w fun e w' => e = .returned (.int .i64 (pre m 0 4)) ∧ Below w.heap.size w w' := by
  have h := hnumber_any (str m) w (by rw [str_size]; omega) (by rw [str_size]; omega)
  rwa [num4_pre m hm] at h

theorem pre_cut (l : List UInt8) (o : Nat) (h : o + 4 ≤ l.length) : pre ((l.drop o).take 4) 0 4 = n4 l o := by
  simp [n4, pre, List.getElem?_drop]

theorem rdecode_short (l : List UInt8) (hl : l.length ≠ 24) (h63 : l.length ≤ 9223372036854775807) (w : World) :
    Calls Try.prog 129 #[.string (str l)] w fun e w' => e = .returned (decV l) ∧ Below w.heap.size w w' := by
  have hd : decV l = .tuple #[hv 0 0 0, .int .i64 4] := by unfold decV dec; rw [if_neg (fun h => hl h.1)]
  rw [hd]
  have hs : (str l).size = l.length := str_size l
  have hn : (((str l).size : Int) != 24) = true := by rw [hs, bne_iff_ne]; omega
  have hn2 : (((l.length : Nat) : Int) != 24) = true := by rw [bne_iff_ne]; omega
  unfold hv
  go_enter Try.func129, Try.ntmps129
  go_wp2
  exact bodyPost_ret (v := .tuple #[hv 0 0 0, .int .i64 4]) (by simp [results, Try.results129, go_sem]; rfl) rfl ⟨rfl, by (repeat' (first | (with_reducible assumption) | (with_reducible exact Below.refl _ _) | (with_reducible refine below_sc ?_ ?_) | ((with_reducible show (_ : Nat) ≤ _); omega) | refine Below.setCell ?_ (by first | omega | (simp; done) | (simp; omega)) _ | refine Below.alloc ?_ (by first | omega | (simp; done) | (simp; omega)) _ | refine Below.drew ?_ | refine below_drewN ?_ _ | refine Below.trans ?_ (Below.mono (by assumption) (by first | omega | (simp; done) | (simp; omega)))))⟩

theorem rdecode_long (l : List UInt8) (hl : l.length = 24) (w : World) :
    Calls Try.prog 129 #[.string (str l)] w fun e w' => e = .returned (decV l) ∧ Below w.heap.size w w' := by
  have hs : (str l).size = 24 := by rw [str_size, hl]
  have p4 := pre_cut l 4 (by omega)
  have p8 := pre_cut l 8 (by omega)
  have p12 := pre_cut l 12 (by omega)
  have hx := str_extract l
  obtain ⟨R, hR⟩ : ∃ R, R = decV l := ⟨_, rfl⟩
  rw [← hR]
  have HR := Lib.hid hR
  clear hR
  go_enter Try.func129, Try.ntmps129
  go_wp2
  refine wp_region_alloc (w.heap.size + 1) 10 (T := 32) (z := #[.int .i64 0, .int .i64 0, .int .i64 0]) (by kernel_rfl) (by kernel_rfl) (by simp) rfl rfl rfl (fun _ _ => by go_simp) (by kernel_rfl) ?_
  apply Exists.intro
  refine ⟨fun ψ hψ hne => ?_, ?_⟩
  · simp only [List.take_succ_cons, List.take_zero]
    repeat (go_big_quiet_step ((go_at_call 152; exact extP_of hψ (by simp) (number_l _ (by simp; omega) _))))
    exact wpQuiet_nil rfl
  · intro g w2 hb2 hg hh
    simp only [List.drop_succ_cons, List.drop_zero]
    obtain ⟨c0, c1, c2, f0, f1, f2, hgz⟩ := blk3 hh
    have hr := (hb2.block w.heap.size (by omega)).trans (heap_alloc_last _ _)
    obtain ⟨r0, r1, r2, e0, e1, e2, hrz⟩ := blk3 hr
    have hB : Below w.heap.size w w2 := by (repeat' (first | (with_reducible assumption) | (with_reducible exact Below.refl _ _) | (with_reducible refine below_sc ?_ ?_) | ((with_reducible show (_ : Nat) ≤ _); omega) | refine Below.setCell ?_ (by first | omega | (simp; done) | (simp; omega)) _ | refine Below.alloc ?_ (by first | omega | (simp; done) | (simp; omega)) _ | refine Below.drew ?_ | refine below_drewN ?_ _ | refine Below.trans ?_ (Below.mono (by assumption) (by first | omega | (simp; done) | (simp; omega)))))
    have Hh := Lib.hid hh
    have Hr := Lib.hid hr
    clear hh hr hb2 p4 p8 p12 hx
    have hgn : g ≠ w.heap.size := by omega
    have hgn' : w.heap.size ≠ g := by omega
    have hd := HR.out
    unfold decV dec at hd
    generalize n4 l 4 = A at *
    generalize n4 l 8 = B at *
    generalize n4 l 12 = C at *
    have HD := Lib.hid hd
    clear hd
    go_wp2_with fail
    rw [set3 _ _ _ Hh.out]
    have hh3 := setRow_heap w2 g _ #[.int .i64 A, .int .i64 B, .int .i64 C] _ _ Hh.out
    have hr3 := (setRow_other w2 g w.heap.size #[.int .i64 A, .int .i64 B, .int .i64 C] (by omega)).trans Hr.out
    have hB3 := below_setRow hB (g := g) (by omega) #[.int .i64 A, .int .i64 B, .int .i64 C]
    clear c0 c1 c2 f0 f1 f2 r0 r1 r2 e0 e1 e2 hgz hrz Hh Hr hB
    generalize w2.setRow g #[.int .i64 A, .int .i64 B, .int .i64 C] = w3 at *
    have key : ∃ E T, Calls Try.prog 67 #[hv A B C] w3 (fun e w' => e = .returned (.tuple #[.string (str T), .int .i64 E]) ∧ Below w3.heap.size w3 w') ∧ ((hmayB A B C = true ∧ E = 0 ∧ T = hbytes A B C) ∨ (hmayB A B C = false ∧ E = 4)) := by
      cases hm : hmayB A B C with
      | true => exact ⟨0, hbytes A B C, rencode_yes A B C hm w3, .inl ⟨rfl, rfl, rfl⟩⟩
      | false => exact ⟨4, [], rencode_no A B C hm w3, .inr ⟨rfl, rfl⟩⟩
    obtain ⟨E, T, hcall, hcase⟩ := key
    have Hc := Lib.hid hcall
    have HC := Lib.hid hcase
    clear hcall hcase
    refine Hc.out.mono ?_
    rintro e w4 ⟨rfl, hb4⟩
    have hh4 := (hb4.block g (Array.getElem?_eq_some_iff.1 hh3).1).trans hh3
    have hr4 := (hb4.block w.heap.size (Array.getElem?_eq_some_iff.1 hr3).1).trans hr3
    have hB4 : Below w.heap.size w w4 := hB3.trans (hb4.mono (by have := (Array.getElem?_eq_some_iff.1 hr3).1; omega))
    clear hh3 hr3 hB3 hb4 Hc
    obtain ⟨c0, c1, c2, f0, f1, f2, hgz⟩ := blk3 hh4
    obtain ⟨r0, r1, r2, e0, e1, e2, hrz⟩ := blk3 hr4
    have Hr := Lib.hid hr4
    have HB := Lib.hid hB4
    clear hh4 hr4 hB4
    rcases HC.out with ⟨hm, rfl, rfl⟩ | ⟨hm, rfl⟩
    · have Hm := Lib.hid hm
      clear hm HC
      go_wp2
      · rename_i hne
        have hne' : ¬ hbytes A B C = l := by
          intro h
          rw [h] at hne
          simp at hne
        have hR : R = .tuple #[hv 0 0 0, .int .i64 4] := by rw [HD.out, if_neg (fun h => hne' h.2.2)]
        refine bodyPost_ret (v := R) (by rw [hR]; simp only [results, Try.results129]; go_simp; rfl) rfl ⟨rfl, ?_⟩
        have := HB.out
        (repeat' (first | (with_reducible assumption) | (with_reducible exact Below.refl _ _) | (with_reducible refine below_sc ?_ ?_) | ((with_reducible show (_ : Nat) ≤ _); omega) | refine Below.setCell ?_ (by first | omega | (simp; done) | (simp; omega)) _ | refine Below.alloc ?_ (by first | omega | (simp; done) | (simp; omega)) _ | refine Below.drew ?_ | refine below_drewN ?_ _ | refine Below.trans ?_ (Below.mono (by assumption) (by first | omega | (simp; done) | (simp; omega)))))
      · rename_i hne
        have hne' : hbytes A B C = l := by simpa [strL] using hne
        have hR : R = .tuple #[hv A B C, .int .i64 0] := by rw [HD.out, if_pos ⟨hl, Hm.out, hne'⟩]
        refine bodyPost_ret (v := R) (by rw [hR]; simp only [results, Try.results129]; go_simp; rfl) rfl ⟨rfl, ?_⟩
        have := HB.out
        (repeat' (first | (with_reducible assumption) | (with_reducible exact Below.refl _ _) | (with_reducible refine below_sc ?_ ?_) | ((with_reducible show (_ : Nat) ≤ _); omega) | refine Below.setCell ?_ (by first | omega | (simp; done) | (simp; omega)) _ | refine Below.alloc ?_ (by first | omega | (simp; done) | (simp; omega)) _ | refine Below.drew ?_ | refine below_drewN ?_ _ | refine Below.trans ?_ (Below.mono (by assumption) (by first | omega | (simp; done) | (simp; omega)))))
    · have Hm := Lib.hid hm
      clear hm HC
      have hR : R = .tuple #[hv 0 0 0, .int .i64 4] := by rw [HD.out, if_neg (fun h => by rw [Hm.out] at h; exact absurd h.2.1 (by simp))]
      have HR2 := Lib.hid hR
      clear hR
      go_wp2
      refine bodyPost_ret (v := R) (by rw [HR2.out]; simp only [results, Try.results129]; go_simp; rfl) rfl ⟨rfl, ?_⟩
      have := HB.out
      (repeat' (first | (with_reducible assumption) | (with_reducible exact Below.refl _ _) | (with_reducible refine below_sc ?_ ?_) | ((with_reducible show (_ : Nat) ≤ _); omega) | refine Below.setCell ?_ (by first | omega | (simp; done) | (simp; omega)) _ | refine Below.alloc ?_ (by first | omega | (simp; done) | (simp; omega)) _ | refine Below.drew ?_ | refine below_drewN ?_ _ | refine Below.trans ?_ (Below.mono (by assumption) (by first | omega | (simp; done) | (simp; omega)))))
end

section
set_option linter.unusedVariables false
open Go.RowKit

theorem hbytes_nums (s i g : Int) (hs : 0 ≤ s ∧ s ≤ 2147483647) (hi : 0 ≤ i ∧ i ≤ 2147483647) (hg : 0 ≤ g ∧ g ≤ 2147483647) :
    n4 (hbytes s i g) 4 = s ∧ n4 (hbytes s i g) 8 = i ∧ n4 (hbytes s i g) 12 = g := by
  refine ⟨?_, ?_, ?_⟩ <;> (simp [hbytes, head16, beN, n4, pre, byteOf_toNat]; omega)

theorem dec_hbytes (s i g : Int) (h : hmayB s i g = true) : dec (hbytes s i g) = some (s, i, g) := by
  have hm := hmayB_spec h
  obtain ⟨h1, h2, h3⟩ := hbytes_nums s i g ⟨hm.1, hm.2.1⟩ ⟨by omega, by omega⟩ ⟨by omega, by omega⟩
  unfold dec
  rw [h1, h2, h3, if_pos ⟨hbytes_length _ _ _, h, rfl⟩]

theorem decode_any (l : List UInt8) (h63 : l.length ≤ 9223372036854775807) (w : World) : Calls Try.prog 149 #[.string (str l)] w fun e w' => e = .returned (decV l) ∧ Below w.heap.size w w' := by
  by_cases hl : l.length = 24
  · exact decode_long l hl w
  · exact decode_short l hl h63 w
theorem rdecode_any (l : List UInt8) (h63 : l.length ≤ 9223372036854775807) (w : World) : Calls Try.prog 129 #[.string (str l)] w fun e w' => e = .returned (decV l) ∧ Below w.heap.size w w' := by
  by_cases hl : l.length = 24
  · exact rdecode_long l hl w
  · exact rdecode_short l hl h63 w

def encV (s i g : Int) : Value := if hmayB s i g = true then .tuple #[.string (str (hbytes s i g)), .int .i64 0] else .tuple #[.string ⟨#[]⟩, .int .i64 4]
theorem encode_any (s i g : Int) (w : World) : Calls Try.prog 96 #[hv s i g] w fun e w' => e = .returned (encV s i g) ∧ Below w.heap.size w w' := by
  unfold encV
  cases h : hmayB s i g with
  | true => exact encode_yes s i g h w
  | false => exact encode_no s i g h w
theorem rencode_any (s i g : Int) (w : World) : Calls Try.prog 67 #[hv s i g] w fun e w' => e = .returned (encV s i g) ∧ Below w.heap.size w w' := by
  unfold encV
  cases h : hmayB s i g with
  | true => exact rencode_yes s i g h w
  | false => exact rencode_no s i g h w

/-- Are two handles the same? -/
def eqH (a b c x y z : Int) : Bool := decide (a = x ∧ b = y ∧ c = z)
theorem neq_handle (a b c x y z : Int) (w : World) : (binOp .neq 32 (.agg #[.int .i64 a, .int .i64 b, .int .i64 c]) (.agg #[.int .i64 x, .int .i64 y, .int .i64 z])).run Try.prog w = .ok (.bool (!eqH a b c x y z)) w := by
  go_simp
  by_cases h1 : a = x <;> by_cases h2 : b = y <;> by_cases h3 : c = z <;> simp [eqH, h1, h2, h3]
theorem eql_handle (a b c x y z : Int) (w : World) : (binOp .eql 32 (.agg #[.int .i64 a, .int .i64 b, .int .i64 c]) (.agg #[.int .i64 x, .int .i64 y, .int .i64 z])).run Try.prog w = .ok (.bool (eqH a b c x y z)) w := by
  go_simp
  by_cases h1 : a = x <;> by_cases h2 : b = y <;> by_cases h3 : c = z <;> simp [eqH, h1, h2, h3]
theorem eqH_false {a b c x y z : Int} (h : ¬ (a = x ∧ b = y ∧ c = z)) : eqH a b c x y z = false := by simp only [eqH, h, decide_false]
theorem eqH_same (a b c : Int) : eqH a b c a b c = true := by simp [eqH]

end
end Go.Proofs.Yteahlnoonmfjhaa
