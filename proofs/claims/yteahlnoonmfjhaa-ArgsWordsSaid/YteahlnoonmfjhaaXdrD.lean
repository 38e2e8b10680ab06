/- Walks of package jettyref01, that write: Word, Long, Int, Flag, Fixed, Text. -/
import Derived.Test.YteahlnoonmfjhaaXdrC
set_option linter.unusedVariables false
set_option maxRecDepth 100000
namespace Go.Proofs.Yteahlnoonmfjhaa
open Go.RowKit

/-- A new empty row. -/
theorem own_none {w : World} {T : TypeId} : Own (w.alloc (.cells #[] T)) w.heap.size T (.slice (some ⟨w.heap.size, 0, none⟩) 0 0) [] 0 :=
  ⟨w.heap.size, [], rfl, Nat.le_refl _, heap_alloc_last w _, rfl⟩
theorem ext_alloc (w : World) (o : Obj) : Ext w (w.alloc o) := (Below.refl _ w).alloc (Nat.le_refl _) o

/-- n, divided by 256, i times. -/
def q256 (n : Int) : Nat → Int
  | 0 => n
  | i + 1 => q256 n i / 256
theorem q256_eq (n : Int) : ∀ i, q256 n i = n / 2 ^ (8 * i)
  | 0 => by simp [q256]
  | i + 1 => by
    rw [q256, q256_eq n i, Int.ediv_ediv_of_nonneg (by exact_mod_cast Nat.zero_le _)]
    congr 1
    rw [show 8 * (i + 1) = 8 * i + 8 by omega, Int.pow_add]
    rfl
theorem q256_bd (n : Int) (h0 : 0 ≤ n) (h1 : n ≤ 4294967295) : ∀ i, 0 ≤ q256 n i ∧ q256 n i ≤ 4294967295
  | 0 => ⟨h0, h1⟩
  | i + 1 => by have := q256_bd n h0 h1 i; simp only [q256]; omega

theorem rs_oneI {w : World} {T : TypeId} (x : Int) : RS (w.alloc (.cells #[.int .u8 (x % 256)] T)) (.slice (some ⟨w.heap.size, 0, none⟩) 1 1) [byteOf x] := by
  rw [← bv_byteOf]
  exact rs_one _
theorem beN4_take (n : Int) : ∀ m, m < 4 → (beN n 4).take (m + 1) = (beN n 4).take m ++ [byteOf (q256 n (3 - m))]
  | 0, _ => by rw [q256_eq]; rfl
  | 1, _ => by rw [q256_eq]; rfl
  | 2, _ => by rw [q256_eq]; rfl
  | 3, _ => by rw [q256_eq]; rfl
  | m + 4, h => by omega

theorem rWord_any (v : Value) (l : List UInt8) (n : Int) (w : World) (hv : RS w v l) (h0 : 0 ≤ n) (h1 : n ≤ 4294967295) (h : l.length ≤ 900000) :
    Calls Try.prog 86 #[v, .int .u32 n] w fun e w' => ∃ v', e = .returned v' ∧ OwnZ w' w.heap.size 5 v' (l ++ beN n 4) ∧ Below w.heap.size w w' := by
  obtain ⟨A, c, rfl⟩ := hv.form
  obtain ⟨v0, w0, hr0, ho0, hb0⟩ := appZ (ty := 47) (own_none (w := w) (T := 5)).z (srcS (hv.ext (ext_alloc w _))) (by simp) (by simp; omega)
  go_enter Try.func86, Try.ntmps86
  go_wp2_with (at_builtin; refine wpList_app rfl _ _ _ _ rfl hr0 ?_)
  have hB0 : Ext w w0 := Below.trans (ext_alloc w _) hb0
  have H0 := Lib.hid ho0
  clear ho0 hr0
  go_loopw [5, 6] (fun x i wr => ∃ m : Nat, m ≤ 4 ∧ i = .int .i64 (3 - (m : Int)) ∧ Hid (OwnZ wr w.heap.size 5 x (l ++ (beN n 4).take m)) ∧ Hid (Ext w wr)) (fun _ i _ => (intOf i + 1).toNat)
  case atStart => exact ⟨0, by omega, rfl, by simpa [Hid] using H0.out, hB0⟩
  case round =>
    obtain ⟨m, hm, rfl, HO, HB⟩ := hrel
    by_cases hlt : m < 4
    · obtain ⟨wo, rfl⟩ : ∃ wo : World, wo = wr := ⟨_, rfl⟩
      go_wp2_with fail
      go_loop [7, 8] (fun x j => ∃ k : Nat, k ≤ 3 - m ∧ j = .int .i64 k ∧ x = .int .u32 (q256 n k)) (fun _ j => 3 - m - (intOf j).toNat)
      case atStart => exact ⟨0, by omega, rfl, rfl⟩
      case round =>
        obtain ⟨k, hk, rfl, rfl⟩ := hrel
        have hq := q256_bd n h0 h1 k
        by_cases hk3 : k < 3 - m
        · go_wp2_with fail
          go_round
          case rel => exact ⟨k + 1, by omega, by go_num, rfl⟩
          case measure => simp [intOf]; omega
        · obtain rfl : k = 3 - m := by omega
          obtain ⟨v5, w5, hr5, ho5, hb5⟩ := appZ (ty := 47) (HO.out.ext (ext_alloc wo _)) (srcS (rs_oneI (w := wo) (T := 5) (q256 n (3 - m)))) (by have := HB.out.size; simp; omega) (by simp [beN_length]; omega)
          rw [List.append_assoc, ← beN4_take n m hlt] at ho5
          have hx5 : Ext w w5 := Below.trans (HB.out.trans (ext_alloc wo _)) hb5
          have H5 := Lib.hid ho5
          have HX := Lib.hid hx5
          clear ho5 hx5
          go_wp2_with (at_builtin; refine wpList_app rfl _ _ _ _ rfl hr5 ?_)
          go_roundw
          case rel => exact ⟨m + 1, by omega, by go_num, H5, HX⟩
          case measure => simp [intOf]; omega
    · obtain rfl : m = 4 := by omega
      go_wp2_with fail
      go_ret
      exact ⟨_, rfl, HO.out, HB.out⟩

theorem rLong_any (v : Value) (l : List UInt8) (n : Int) (w : World) (hv : RS w v l) (h0 : 0 ≤ n) (h1 : n ≤ 18446744073709551615) (h : l.length ≤ 800000) :
    Calls Try.prog 69 #[v, .int .u64 n] w fun e w' => ∃ v', e = .returned v' ∧ OwnZ w' w.heap.size 5 v' (l ++ beL n) ∧ Below w.heap.size w w' := by
  obtain ⟨A, c, rfl⟩ := hv.form
  go_enter Try.func69, Try.ntmps69
  go_wp2_with fail
  refine (rWord_any _ l (n / 4294967296) _ hv (by omega) (by omega) (by omega)).mono ?_
  rintro e w1 ⟨v1, rfl, ho1, hb1⟩
  go_wp2_with fail
  refine (rWord_any _ _ (n % 4294967296) _ ho1.rs (by omega) (by omega) (by simp [beN_length]; omega)).mono ?_
  rintro e w2 ⟨v2, rfl, ho2, hb2⟩
  go_wp2_with fail
  go_ret
  rw [List.append_assoc] at ho2
  exact ⟨_, rfl, ho2.mono hb1.size, Below.trans hb1 (hb2.mono hb1.size)⟩

theorem rInt_any (v : Value) (l : List UInt8) (n : Int) (w : World) (hv : RS w v l) (h0 : -9223372036854775808 ≤ n) (h1 : n ≤ 9223372036854775807) (h : l.length ≤ 800000) :
    Calls Try.prog 70 #[v, .int .i64 n] w fun e w' => ∃ v', e = .returned v' ∧ OwnZ w' w.heap.size 5 v' (l ++ beL (n % 18446744073709551616)) ∧ Below w.heap.size w w' := by
  obtain ⟨A, c, rfl⟩ := hv.form
  go_enter Try.func70, Try.ntmps70
  go_wp2_with fail
  refine (rLong_any _ l (n % 18446744073709551616) _ hv (by omega) (by omega) h).mono ?_
  rintro e w1 ⟨v', rfl, ho, hb⟩
  go_wp2_with fail
  go_ret
  exact ⟨_, rfl, ho, hb⟩

theorem rFlag_any (v : Value) (l : List UInt8) (b : Bool) (w : World) (hv : RS w v l) (h : l.length ≤ 800000) :
    Calls Try.prog 89 #[v, .bool b] w fun e w' => ∃ v', e = .returned v' ∧ OwnZ w' w.heap.size 5 v' (l ++ beN (b2i b) 4) ∧ Below w.heap.size w w' := by
  obtain ⟨A, c, rfl⟩ := hv.form
  cases b
  · go_enter Try.func89, Try.ntmps89
    go_wp2_with fail
    refine (rWord_any _ l 0 _ hv (by omega) (by omega) (by omega)).mono ?_
    rintro e w1 ⟨v', rfl, ho, hb⟩
    go_wp2_with fail
    go_ret
    exact ⟨_, rfl, ho, hb⟩
  · go_enter Try.func89, Try.ntmps89
    go_wp2_with fail
    refine (rWord_any _ l 1 _ hv (by omega) (by omega) (by omega)).mono ?_
    rintro e w1 ⟨v', rfl, ho, hb⟩
    go_wp2_with fail
    go_ret
    exact ⟨_, rfl, ho, hb⟩

theorem rFixed_p (v : Value) (l s : List UInt8) (p : Nat) (hpn : padN s.length = p) (w : World) (hv : RS w v l) (h : l.length ≤ 500000) (hs : s.length ≤ 400000) :
    Calls Try.prog 121 #[v, .string (str s)] w fun e w' => ∃ v', e = .returned v' ∧ OwnZ w' w.heap.size 5 v' (l ++ (s ++ zs p)) ∧ Below w.heap.size w w' := by
  obtain ⟨A, c, rfl⟩ := hv.form
  have hsz := str_size s
  have hp : p ≤ 3 := by rw [← hpn]; exact padN_le s.length
  have hpm : (s.length + p) % 4 = 0 := by rw [← hpn]; unfold padN; omega
  have hpl : ∀ m, m < p → (s.length + m) % 4 ≠ 0 := by rw [← hpn]; unfold padN; omega
  clear hpn
  obtain ⟨v0, w0, hr0, ho0, hb0⟩ := appZ (ty := 47) (own_none (w := w) (T := 5)).z (srcS (hv.ext (ext_alloc w _))) (by simp) (by simp; omega)
  obtain ⟨v1, w1, hr1, ho1, hb1⟩ := appZ (ty := 47) ho0 (srcT s) (by have := hb0.size; simp at this; omega) (by simp; omega)
  have hB1 : Ext w w1 := Below.trans (Below.trans (ext_alloc w _) hb0) hb1
  go_enter Try.func121, Try.ntmps121
  go_wp2_with (first | (at_builtin; refine wpList_app rfl _ _ _ _ rfl hr0 ?_) | (at_builtin; refine wpList_app rfl _ _ _ _ rfl hr1 ?_))
  have H0 := Lib.hid ho1
  clear ho0 ho1 hr0 hr1
  go_loopw [5, 6] (fun x i wr => ∃ m : Nat, m ≤ p ∧ i = .int .i64 ((s.length : Int) + m) ∧ Hid (OwnZ wr w.heap.size 5 x (l ++ (s ++ zs m))) ∧ Hid (Ext w wr)) (fun _ i _ => s.length + p - (intOf i).toNat)
  case atStart => exact ⟨0, by omega, by simp, by simpa [Hid, zs] using H0.out, hB1⟩
  case round =>
    obtain ⟨m, hm, rfl, HO, HB⟩ := hrel
    by_cases hlt : m < p
    · have hne := hpl m hlt
      have hne' : ¬ (((s.length : Int) + m) % 4 = 0) := by omega
      obtain ⟨v5, w5, hr5, ho5, hb5⟩ := appZ (ty := 47) (HO.out.ext (ext_alloc wr (.cells #[bv 0] 5))) (srcS (rs_one (w := wr) (T := 5) 0)) (by have := HB.out.size; simp; omega) (by simp [zs]; omega)
      have e5 : l ++ (s ++ zs m) ++ [0] = l ++ (s ++ zs (m + 1)) := by simp [zs, List.replicate_succ']
      rw [e5] at ho5
      have hx5 : Ext w w5 := Below.trans (HB.out.trans (ext_alloc wr _)) hb5
      have H5 := Lib.hid ho5
      have HX := Lib.hid hx5
      clear ho5 hx5 e5
      go_wp2_with (at_builtin; refine wpList_app rfl _ _ _ _ rfl hr5 ?_)
      go_roundw
      case rel => exact ⟨m + 1, by omega, by go_num, H5, HX⟩
      case measure => simp [intOf]; omega
    · obtain rfl : m = p := by omega
      have he' : (((s.length : Int) + m) % 4 = 0) := by omega
      go_wp2_with fail
      go_ret
      exact ⟨_, rfl, HO.out, HB.out⟩

theorem rFixed_any (v : Value) (l s : List UInt8) (w : World) (hv : RS w v l) (h : l.length ≤ 500000) (hs : s.length ≤ 400000) :
    Calls Try.prog 121 #[v, .string (str s)] w fun e w' => ∃ v', e = .returned v' ∧ OwnZ w' w.heap.size 5 v' (l ++ fixL s) ∧ Below w.heap.size w w' := rFixed_p v l s _ rfl w hv h hs

theorem rText_any (v : Value) (l s : List UInt8) (w : World) (hv : RS w v l) (h : l.length ≤ 400000) (hs : s.length ≤ 400000) :
    Calls Try.prog 68 #[v, .string (str s)] w fun e w' => ∃ v', e = .returned v' ∧ OwnZ w' w.heap.size 5 v' (l ++ (beN s.length 4 ++ fixL s)) ∧ Below w.heap.size w w' := by
  obtain ⟨A, c, rfl⟩ := hv.form
  have hsz := str_size s
  go_enter Try.func68, Try.ntmps68
  go_wp2_with fail
  refine (rWord_any _ l s.length _ hv (by omega) (by omega) (by omega)).mono ?_
  rintro e w1 ⟨v1, rfl, ho1, hb1⟩
  go_wp2_with fail
  refine (rFixed_any _ _ s _ ho1.rs (by simp [beN_length]; omega) hs).mono ?_
  rintro e w2 ⟨v2, rfl, ho2, hb2⟩
  go_wp2_with fail
  go_ret
  rw [List.append_assoc] at ho2
  exact ⟨_, rfl, ho2.mono hb1.size, Below.trans hb1 (hb2.mono hb1.size)⟩
end Go.Proofs.Yteahlnoonmfjhaa
