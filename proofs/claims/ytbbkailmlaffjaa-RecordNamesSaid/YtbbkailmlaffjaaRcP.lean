/- Records: the document's Fragment, Write, Cut. -/
import Derived.Test.YtbbkailmlaffjaaRcN
set_option linter.unusedVariables false
set_option maxRecDepth 100000
namespace Go.Proofs.Ytbbkailmlaffjaa
open Go.RowKit

theorem fr_cells (n a b c d : Int) (ha : n / 16777216 % 256 = a) (hb : n / 65536 % 256 = b) (hc : n / 256 % 256 = c) (hd : n % 256 = d) (w : World) :
    (convert 22 9 (.slice (some ⟨w.heap.size, 0, none⟩) 4 4)).run Try.prog (w.alloc (.cells #[.int .u8 a, .int .u8 b, .int .u8 c, .int .u8 d] 5)) = .ok (.string (str (beN n 4))) (w.alloc (.cells #[.int .u8 a, .int .u8 b, .int .u8 c, .int .u8 d] 5)) := by
  have e : bvs (beN n 4) = [.int .u8 a, .int .u8 b, .int .u8 c, .int .u8 d] := by
    simp only [bvs, beN, List.map_cons, List.map_nil, bv_byteOf]
    rw [← ha, ← hb, ← hc, ← hd]
    simp
  have hl : (beN n 4).length = 4 := beN_length n 4
  have : RS (w.alloc (.cells #[.int .u8 a, .int .u8 b, .int .u8 c, .int .u8 d] 5)) (.slice (some ⟨w.heap.size, 0, none⟩) 4 4) (beN n 4) := by
    refine .inr ⟨w.heap.size, 0, 4, by rw [hl], by simp, by omega, fun j hj => ?_⟩
    rw [e, cell_of_row _ _ _ _ _ _ (heap_alloc_last w _), Nat.zero_add, List.getElem?_toArray]
  exact this.conv Try.underlying22 Try.underlying5 Try.underlying9
theorem rFrag_any (s : List UInt8) (lst : Bool) (w : World) (h : s.length ≤ 4096) :
    Calls Try.prog 24 #[.string (str s), .bool lst] w fun e w' => e = .returned (.string (str (fragB s lst))) ∧ Below w.heap.size w w' := by
  have hs := str_size s
  have hh : (s.length : Int) ≤ 4096 := by omega
  obtain ⟨R, hR⟩ : ∃ R, str (fragB s lst) = R := ⟨_, rfl⟩
  rw [hR]
  have HR := Lib.hid hR
  clear hR
  cases lst with
  | false =>
    have cvt := fr_cells s.length (s.length / 16777216) (s.length / 65536) (s.length / 256) (s.length % 256) (by omega) (by omega) (by omega) rfl w
    have hcat : str (beN (s.length : Int) 4) ++ str s = R := by rw [← HR.out]; rfl
    have hz := str_size (beN (s.length : Int) 4)
    have hz4 := beN_length (s.length : Int) 4
    generalize str (beN (s.length : Int) 4) = S4 at *
    go_enter Try.func24, Try.ntmps24
    go_wp2_with fail
    go_ret
    exact ⟨rfl, extAl w _⟩
  | true =>
    have cvt := fr_cells (2147483648 + s.length) (s.length / 16777216 + 128) (s.length / 65536) (s.length / 256) (s.length % 256) (by omega) (by omega) (by omega) (by omega) w
    have hcat : str (beN (2147483648 + (s.length : Int)) 4) ++ str s = R := by rw [← HR.out]; rfl
    have hz := str_size (beN (2147483648 + (s.length : Int)) 4)
    have hz4 := beN_length (2147483648 + (s.length : Int)) 4
    generalize str (beN (2147483648 + (s.length : Int)) 4) = S4 at *
    go_enter Try.func24, Try.ntmps24
    go_wp2_with fail
    go_ret
    exact ⟨rfl, extAl w _⟩
theorem rWrite_yes (s : List UInt8) (w : World) (h : s.length ≤ 4096) :
    Calls Try.prog 15 #[.string (str s)] w fun e w' => e = .returned (.tuple #[.string (str (fragB s true)), .int .i64 0]) ∧ Below w.heap.size w w' := by
  have hs := str_size s
  go_enter Try.func15, Try.ntmps15
  go_wp2_with fail
  refine (rFrag_any s true w h).mono ?_
  rintro e w1 ⟨rfl, h1⟩
  go_wp2_with fail
  go_ret2
  exact ⟨rfl, h1⟩
theorem rWrite_no (s : List UInt8) (w : World) (h : ¬ s.length ≤ 4096) (hl : s.length ≤ maxLen) :
    Calls Try.prog 15 #[.string (str s)] w fun e w' => e = .returned (.tuple #[.string (str []), .int .i64 40]) ∧ Below w.heap.size w w' := by
  unfold maxLen at hl
  have hs := str_size s
  go_enter Try.func15, Try.ntmps15
  go_wp2_with fail
  go_ret2
  exact ⟨rfl, by (repeat' (first | (with_reducible assumption) | (with_reducible exact Below.refl _ _) | (with_reducible refine below_sc ?_ ?_) | ((with_reducible show (_ : Nat) ≤ _); omega) | refine Below.setCell ?_ (by first | omega | (simp; done) | (simp; omega)) _ | refine Below.alloc ?_ (by first | omega | (simp; done) | (simp; omega)) _ | refine Below.drew ?_ | refine below_drewN ?_ _ | refine Below.trans ?_ (Below.mono (by assumption) (by first | omega | (simp; done) | (simp; omega)))))⟩
theorem rCut_no (s : List UInt8) (n : Int) (w : World) (h : ¬ s.length ≤ 4096) (hl : s.length ≤ maxLen) :
    Calls Try.prog 17 #[.string (str s), .int .i64 n] w fun e w' => e = .returned (.tuple #[.string (str []), .int .i64 40]) ∧ Below w.heap.size w w' := by
  unfold maxLen at hl
  have hs := str_size s
  go_enter Try.func17, Try.ntmps17
  go_wp2_with fail
  go_ret2
  exact ⟨rfl, by (repeat' (first | (with_reducible assumption) | (with_reducible exact Below.refl _ _) | (with_reducible refine below_sc ?_ ?_) | ((with_reducible show (_ : Nat) ≤ _); omega) | refine Below.setCell ?_ (by first | omega | (simp; done) | (simp; omega)) _ | refine Below.alloc ?_ (by first | omega | (simp; done) | (simp; omega)) _ | refine Below.drew ?_ | refine below_drewN ?_ _ | refine Below.trans ?_ (Below.mono (by assumption) (by first | omega | (simp; done) | (simp; omega)))))⟩
theorem rCut_arg (s : List UInt8) (n : Int) (w : World) (h : s.length ≤ 4096) (hn : n < 1) :
    Calls Try.prog 17 #[.string (str s), .int .i64 n] w fun e w' => e = .returned (.tuple #[.string (str []), .int .i64 1]) ∧ Below w.heap.size w w' := by
  have hs := str_size s
  go_enter Try.func17, Try.ntmps17
  go_wp2_with fail
  go_ret2
  exact ⟨rfl, by (repeat' (first | (with_reducible assumption) | (with_reducible exact Below.refl _ _) | (with_reducible refine below_sc ?_ ?_) | ((with_reducible show (_ : Nat) ≤ _); omega) | refine Below.setCell ?_ (by first | omega | (simp; done) | (simp; omega)) _ | refine Below.alloc ?_ (by first | omega | (simp; done) | (simp; omega)) _ | refine Below.drew ?_ | refine below_drewN ?_ _ | refine Below.trans ?_ (Below.mono (by assumption) (by first | omega | (simp; done) | (simp; omega)))))⟩
set_option maxHeartbeats 4000000 in
theorem rCut_yes (s : List UInt8) (n : Nat) (w : World) (h : s.length ≤ 4096) (h1 : 1 ≤ n) (hn : n ≤ 9223372036854775807) :
    Calls Try.prog 17 #[.string (str s), .int .i64 n] w fun e w' => e = .returned (.tuple #[.string (str (cutB n s.length s)), .int .i64 0]) ∧ Below w.heap.size w w' := by
  have hs := str_size s
  obtain ⟨R, hR⟩ : ∃ R, R = cutB n s.length s := ⟨_, rfl⟩
  rw [← hR]
  have HR := Lib.hid hR
  clear hR
  go_enter Try.func17, Try.ntmps17
  go_wp2_with fail
  go_loopw [0, 6] (fun sv ov wr => ∃ (r o : List UInt8) (f : Nat), sv = .string (str r) ∧ ov = .string (str o) ∧ r.length ≤ f ∧ r.length ≤ 4096 ∧ o.length + 5 * r.length ≤ 20480 ∧ Hid (o ++ cutB n f r = R) ∧ Hid (Below w.heap.size w wr)) (fun sv _ _ => (match sv with | .string x => x.size | _ => 0))
  case atStart => exact ⟨s, [], s.length, rfl, rfl, Nat.le_refl _, h, by simp; omega, Lib.hid (by rw [HR.out]; rfl), Lib.hid (Below.refl _ _)⟩
  case round =>
    obtain ⟨r, o, f, rfl, rfl, hf, h4, h5, HE, HB⟩ := hrel
    have hrs := str_size r
    have hos := str_size o
    by_cases hlt : n < r.length
    · obtain ⟨f', he, hf'⟩ := cutB_step h1 hlt hf
      have HE' := Lib.hid (HE.out.symm.trans (by rw [he, ← List.append_assoc]))
      have hx1 : (str r).extract 0 n = str (r.take n) := by rw [str_extract]; simp
      have hx2 : (str r).extract n r.length = str (r.drop n) := by rw [str_extract, List.take_of_length_le (by simp)]
      have hcat : str o ++ str (fragB (r.take n) false) = str (o ++ fragB (r.take n) false) := rfl
      have hfl : (fragB (r.take n) false).length = 4 + n := by rw [fragB_length]; simp; omega
      have hfs := str_size (fragB (r.take n) false)
      have HL : Hid ((o ++ fragB (r.take n) false).length = o.length + 4 + n) := Lib.hid (by rw [List.length_append, hfl]; omega)
      have HD : Hid ((r.drop n).length = r.length - n) := Lib.hid (by simp)
      have HK := Lib.hid (rFrag_any (r.take n) false wr (by simp; omega))
      have hds : (str (r.drop n)).size < (str r).size := by rw [str_size, str_size, HD.out]; omega
      clear HE he
      generalize o ++ fragB (r.take n) false = O2 at *
      generalize fragB (r.take n) false = F2 at *
      rw [hfl] at hfs
      clear hfl
      go_wp2_with fail
      refine HK.out.mono ?_
      rintro e w1 ⟨rfl, hb1⟩
      have HX := Lib.hid (HB.out.trans (Below.mono hb1 HB.out.size))
      clear HB hb1 HK
      go_wp2_with fail
      go_roundw
      case rel => exact ⟨r.drop n, O2, f', rfl, rfl, hf', by rw [HD.out]; omega, by rw [HD.out, HL.out]; omega, Lib.hid HE'.out.symm, HX⟩
      case measure => exact hds
    · have he := cutB_end (f := f) hlt
      have HE' := Lib.hid (HE.out.symm.trans (by rw [he]))
      have hcat : str o ++ str (fragB r true) = str (o ++ fragB r true) := rfl
      have hfl : (fragB r true).length = 4 + r.length := by rw [fragB_length]
      have hfs := str_size (fragB r true)
      have HK := Lib.hid (rFrag_any r true wr h4)
      clear HE he
      rw [← HE'.out] at hcat
      generalize fragB r true = F2 at *
      rw [hfl] at hfs
      clear hfl
      go_wp2_with fail
      refine HK.out.mono ?_
      rintro e w1 ⟨rfl, hb1⟩
      have HX := Lib.hid (HB.out.trans (Below.mono hb1 HB.out.size))
      clear HB hb1 HK
      go_wp2_with fail
      go_ret2
      exact ⟨rfl, HX.out⟩
end Go.Proofs.Ytbbkailmlaffjaa
