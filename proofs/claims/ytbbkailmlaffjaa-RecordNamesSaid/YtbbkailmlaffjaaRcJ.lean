/- Records: Write, Cut of package record. -/
import Derived.Test.YtbbkailmlaffjaaRcI
set_option linter.unusedVariables false
set_option maxRecDepth 100000
namespace Go.Proofs.Ytbbkailmlaffjaa
open Go.RowKit

/-- A fragment's bytes. -/
def fragB (s : List UInt8) (last : Bool) : List UInt8 := beN (if last then 2147483648 + (s.length : Int) else (s.length : Int)) 4 ++ s
theorem fragB_length (s : List UInt8) (b : Bool) : (fragB s b).length = 4 + s.length := by simp [fragB, beN_length]
/-- A text in fragments of n bytes (f: as many steps as one likes, if there are enough). -/
def cutB (n : Nat) : Nat → List UInt8 → List UInt8
  | 0, s => fragB s true
  | f + 1, s => if n < s.length then fragB (s.take n) false ++ cutB n f (s.drop n) else fragB s true
theorem cutB_end {n f : Nat} {s : List UInt8} (h : ¬ n < s.length) : cutB n f s = fragB s true := by
  cases f with
  | zero => rfl
  | succ f => simp [cutB, h]
theorem cutB_step {n f : Nat} {s : List UInt8} (h1 : 1 ≤ n) (h : n < s.length) (hf : s.length ≤ f) : ∃ f', cutB n f s = fragB (s.take n) false ++ cutB n f' (s.drop n) ∧ (s.drop n).length ≤ f' := by
  cases f with
  | zero => omega
  | succ f => exact ⟨f, by simp [cutB, h], by simp; omega⟩
theorem or_last (m : Nat) (h : m < 2147483648) : bits .or .u32 2147483648 (m : Int) = 2147483648 + m := by
  have h1 : (BitVec.ofInt 32 (2147483648 : Int)).toNat = 2147483648 := by decide
  have h2 : (BitVec.ofInt 32 ((m : Nat) : Int)).toNat = m := by rw [BitVec.ofInt_natCast, BitVec.toNat_ofNat]; exact Nat.mod_eq_of_lt (by omega)
  have e2 : 2147483648 ||| m = 2147483648 + m := by
    have := Nat.two_pow_add_eq_or_of_lt (i := 31) (b := m) (by omega) 1
    rw [Nat.mul_one, show (2 : Nat) ^ 31 = 2147483648 by decide] at this
    exact this.symm
  show IntKind.u32.wrap ((BitVec.ofInt 32 (2147483648 : Int) ||| BitVec.ofInt 32 ((m : Nat) : Int)).toNat : Int) = _
  rw [BitVec.toNat_or, h1, h2, e2]
  simp [IntKind.wrap, IntKind.bits, IntKind.signed]
  omega

theorem recWrite_yes (s : List UInt8) (w : World) (h : s.length ≤ 4096) :
    Calls Try.prog 14 #[.string (str s)] w fun e w' => ∃ v, e = .returned (.tuple #[v, .int .i64 0]) ∧ OwnZ w' w.heap.size 5 v (fragB s true) ∧ Below w.heap.size w w' := by
  have hs := str_size s
  have hor := or_last s.length (by omega)
  go_enter Try.func14, Try.ntmps14
  go_wp2_with fail
  refine (Word_any (.slice none 0 0) [] (2147483648 + (s.length : Int)) _ (.inl ⟨rfl, rfl⟩) (by omega) (by omega) (by simp)).mono ?_
  rintro e w1 ⟨v1, rfl, o1, hb1⟩
  obtain ⟨v', w', hr, ho, hb⟩ := appZ (ty := 22) o1.z (srcT s) hb1.size (by simp [beN_length]; omega)
  obtain ⟨A, c, rfl⟩ := o1.rs.form
  go_wp2_with (at_builtin; refine wpList_app rfl _ _ _ _ rfl hr ?_)
  go_ret2
  exact ⟨_, rfl, ho, hb1.trans hb⟩
theorem recWrite_no (s : List UInt8) (w : World) (h : ¬ s.length ≤ 4096) (hl : s.length ≤ maxLen) :
    Calls Try.prog 14 #[.string (str s)] w fun e w' => e = .returned (.tuple #[.slice none 0 0, .int .i64 40]) ∧ Below w.heap.size w w' := by
  unfold maxLen at hl
  have hs := str_size s
  go_enter Try.func14, Try.ntmps14
  go_wp2_with fail
  go_ret2
  exact ⟨rfl, by (repeat' (first | (with_reducible assumption) | (with_reducible exact Below.refl _ _) | (with_reducible refine below_sc ?_ ?_) | ((with_reducible show (_ : Nat) ≤ _); omega) | refine Below.setCell ?_ (by first | omega | (simp; done) | (simp; omega)) _ | refine Below.alloc ?_ (by first | omega | (simp; done) | (simp; omega)) _ | refine Below.drew ?_ | refine below_drewN ?_ _ | refine Below.trans ?_ (Below.mono (by assumption) (by first | omega | (simp; done) | (simp; omega)))))⟩

set_option maxHeartbeats 4000000 in
theorem recCut_yes (s : List UInt8) (n : Nat) (w : World) (h : s.length ≤ 4096) (h1 : 1 ≤ n) (hn : n ≤ 9223372036854775807) :
    Calls Try.prog 16 #[.string (str s), .int .i64 n] w fun e w' => ∃ v, e = .returned (.tuple #[v, .int .i64 0]) ∧ OwnZ w' w.heap.size 5 v (cutB n s.length s) ∧ Below w.heap.size w w' := by
  have hs := str_size s
  obtain ⟨R, hR⟩ : ∃ R, R = cutB n s.length s := ⟨_, rfl⟩
  rw [← hR]
  have HR := Lib.hid hR
  clear hR
  go_enter Try.func16, Try.ntmps16
  go_wp2_with fail
  go_loopw [0, 6] (fun sv ov wr => ∃ (r o : List UInt8) (f : Nat), sv = .string (str r) ∧ Hid (OwnZ wr w.heap.size 5 ov o) ∧ r.length ≤ f ∧ r.length ≤ 4096 ∧ o.length + 5 * r.length ≤ 20480 ∧ Hid (o ++ cutB n f r = R) ∧ Hid (Below w.heap.size w wr)) (fun sv _ _ => (match sv with | .string x => x.size | _ => 0))
  case atStart => exact ⟨s, [], s.length, rfl, Lib.hid OwnZ.nil, Nat.le_refl _, h, by simp; omega, Lib.hid (by rw [HR.out]; rfl), Lib.hid (Below.refl _ _)⟩
  case round =>
    obtain ⟨r, o, f, rfl, HO, hf, h4, h5, HE, HB⟩ := hrel
    have hrs := str_size r
    obtain ⟨A, c, rfl⟩ := HO.out.rs.form
    by_cases hlt : n < r.length
    · obtain ⟨f', he, hf'⟩ := cutB_step h1 hlt hf
      have HE' := Lib.hid (HE.out.symm.trans (by rw [he, ← List.append_assoc]))
      have hx1 : (str r).extract 0 n = str (r.take n) := by rw [str_extract]; simp
      have hx2 : (str r).extract n r.length = str (r.drop n) := by rw [str_extract, List.take_of_length_le (by simp)]
      clear HE he
      go_wp2_with fail
      refine (Word_any (.slice none 0 0) [] (n : Int) _ (.inl ⟨rfl, rfl⟩) (by omega) (by omega) (by simp)).mono ?_
      rintro e w1 ⟨v1, rfl, o1, hb1⟩
      have hl1 : ([] ++ beN (n : Int) 4).length = 4 := by simp [beN_length]
      have hoa : o ++ fragB (r.take n) false = o ++ ([] ++ beN (n : Int) 4) ++ r.take n := by
        have : (r.take n).length = n := by simp; omega
        simp only [fragB, this, Bool.false_eq_true, if_false, List.nil_append, List.append_assoc]
      generalize [] ++ beN (n : Int) 4 = L1 at o1 hl1 hoa
      have o1 : OwnZ w1 wr.heap.size 5 v1 L1 := o1.z
      have hX1 := HB.out.trans (Below.mono hb1 HB.out.size)
      obtain ⟨v2, w2, hr2, ho2, hb2⟩ := appZ (ty := 22) (HO.out.ext hb1) (srcS o1.rs) hX1.size (by omega)
      have hX2 := hX1.trans hb2
      obtain ⟨L2, hL2⟩ : ∃ L2, o ++ L1 = L2 := ⟨_, rfl⟩
      have hl2 : L2.length = o.length + 4 := by rw [← hL2, List.length_append, hl1]
      rw [hL2] at ho2 hoa
      obtain ⟨v3, w3, hr3, ho3, hb3⟩ := appZ (ty := 22) ho2 (srcT (r.take n)) hX2.size (by simp; omega)
      have hX3 := hX2.trans hb3
      have hl3 : (L2 ++ r.take n).length = o.length + 4 + n := by simp; omega
      obtain ⟨L3, hL3⟩ : ∃ L3, L2 ++ r.take n = L3 := ⟨_, rfl⟩
      rw [hL3] at ho3 hl3 hoa
      have HO3 := Lib.hid ho3
      have HX3 := Lib.hid hX3
      have HL := Lib.hid hoa
      obtain ⟨A3, c3, rfl⟩ := ho3.rs.form
      clear hX1 hX2 hX3 hL3 hL2 hoa ho3 HO HB hb1 hb2 hb3
      obtain ⟨A1, c1, rfl⟩ := o1.rs.form
      obtain ⟨A2, c2, rfl⟩ := ho2.rs.form
      have HLs := Lib.hid (And.intro hl1 (And.intro hl2 hl3))
      clear o1 ho2 hl1 hl2 hl3
      have hdl : (r.drop n).length = r.length - n := by simp
      have hds : (str (r.drop n)).size < (str r).size := by rw [str_size, str_size, hdl]; omega
      have HD := Lib.hid hdl
      clear hdl
      have HE2 := HE'
      clear HE'
      go_upto_region 8 with (at_builtin; refine wpList_app rfl (.tmp 16) (.tmp 19) 22 22 rfl hr2 ?_; simp only [Act.put])
      clear hr2
      go_wp2_with (at_builtin; refine wpList_app rfl (.tmp 21) (.tmp 24) 22 9 rfl hr3 ?_; simp only [Act.put])
      go_roundw
      case rel => exact ⟨r.drop n, L3, f', rfl, HO3, hf', by rw [HD.out]; omega, by rw [HD.out, HLs.out.2.2]; omega, Lib.hid (by rw [← HL.out, HE2.out]), HX3⟩
      case measure => exact hds
    · have he := cutB_end (f := f) hlt
      have HE' := Lib.hid (HE.out.symm.trans (by rw [he]))
      have hor := or_last r.length (by omega)
      clear HE he
      go_wp2_with fail
      refine (Word_any (.slice none 0 0) [] (2147483648 + (r.length : Int)) _ (.inl ⟨rfl, rfl⟩) (by omega) (by omega) (by simp)).mono ?_
      rintro e w1 ⟨v1, rfl, o1, hb1⟩
      have hl1 : ([] ++ beN (2147483648 + (r.length : Int)) 4).length = 4 := by simp [beN_length]
      have hoa : o ++ fragB r true = o ++ ([] ++ beN (2147483648 + (r.length : Int)) 4) ++ r := by
        simp only [fragB, if_true, List.nil_append, List.append_assoc]
      generalize [] ++ beN (2147483648 + (r.length : Int)) 4 = L1 at o1 hl1 hoa
      have o1 : OwnZ w1 wr.heap.size 5 v1 L1 := o1.z
      have hX1 := HB.out.trans (Below.mono hb1 HB.out.size)
      obtain ⟨v2, w2, hr2, ho2, hb2⟩ := appZ (ty := 22) (HO.out.ext hb1) (srcS o1.rs) hX1.size (by omega)
      have hX2 := hX1.trans hb2
      obtain ⟨L2, hL2⟩ : ∃ L2, o ++ L1 = L2 := ⟨_, rfl⟩
      have hl2 : L2.length = o.length + 4 := by rw [← hL2, List.length_append, hl1]
      rw [hL2] at ho2 hoa
      obtain ⟨v3, w3, hr3, ho3, hb3⟩ := appZ (ty := 22) ho2 (srcT r) hX2.size (by omega)
      have hX3 := hX2.trans hb3
      obtain ⟨L3, hL3⟩ : ∃ L3, L2 ++ r = L3 := ⟨_, rfl⟩
      rw [hL3] at ho3 hoa
      have HO3 := Lib.hid ho3
      have HX3 := Lib.hid hX3
      have HL := Lib.hid hoa
      obtain ⟨A3, c3, rfl⟩ := ho3.rs.form
      clear hX1 hX2 hX3 hL3 hL2 hoa ho3 HO HB hb1 hb2 hb3
      obtain ⟨A1, c1, rfl⟩ := o1.rs.form
      obtain ⟨A2, c2, rfl⟩ := ho2.rs.form
      clear o1 ho2 hl1 hl2
      go_upto_region 11 with (at_builtin; refine wpList_app rfl (.tmp 29) (.tmp 34) 22 22 rfl hr2 ?_; simp only [Act.put])
      clear hr2
      go_wp2_with (at_builtin; refine wpList_app rfl (.tmp 36) (.tmp 37) 22 9 rfl hr3 ?_; simp only [Act.put])
      go_ret2
      refine ⟨_, rfl, ?_, HX3.out⟩
      rw [HE'.out, HL.out]
      exact HO3.out
theorem recCut_no (s : List UInt8) (n : Int) (w : World) (h : ¬ s.length ≤ 4096) (hl : s.length ≤ maxLen) :
    Calls Try.prog 16 #[.string (str s), .int .i64 n] w fun e w' => e = .returned (.tuple #[.slice none 0 0, .int .i64 40]) ∧ Below w.heap.size w w' := by
  unfold maxLen at hl
  have hs := str_size s
  go_enter Try.func16, Try.ntmps16
  go_wp2_with fail
  go_ret2
  exact ⟨rfl, by (repeat' (first | (with_reducible assumption) | (with_reducible exact Below.refl _ _) | (with_reducible refine below_sc ?_ ?_) | ((with_reducible show (_ : Nat) ≤ _); omega) | refine Below.setCell ?_ (by first | omega | (simp; done) | (simp; omega)) _ | refine Below.alloc ?_ (by first | omega | (simp; done) | (simp; omega)) _ | refine Below.drew ?_ | refine below_drewN ?_ _ | refine Below.trans ?_ (Below.mono (by assumption) (by first | omega | (simp; done) | (simp; omega)))))⟩
theorem recCut_arg (s : List UInt8) (n : Int) (w : World) (h : s.length ≤ 4096) (hn : n < 1) :
    Calls Try.prog 16 #[.string (str s), .int .i64 n] w fun e w' => e = .returned (.tuple #[.slice none 0 0, .int .i64 1]) ∧ Below w.heap.size w w' := by
  have hs := str_size s
  go_enter Try.func16, Try.ntmps16
  go_wp2_with fail
  go_ret2
  exact ⟨rfl, by (repeat' (first | (with_reducible assumption) | (with_reducible exact Below.refl _ _) | (with_reducible refine below_sc ?_ ?_) | ((with_reducible show (_ : Nat) ≤ _); omega) | refine Below.setCell ?_ (by first | omega | (simp; done) | (simp; omega)) _ | refine Below.alloc ?_ (by first | omega | (simp; done) | (simp; omega)) _ | refine Below.drew ?_ | refine below_drewN ?_ _ | refine Below.trans ?_ (Below.mono (by assumption) (by first | omega | (simp; done) | (simp; omega)))))⟩
end Go.Proofs.Ytbbkailmlaffjaa
