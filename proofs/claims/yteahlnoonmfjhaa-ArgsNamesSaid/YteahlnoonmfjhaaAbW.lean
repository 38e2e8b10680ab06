/- Walk of jettylaw05.works: the examples. -/
import Derived.Test.YteahlnoonmfjhaaAgE
import Derived.Test.YteahlnoonmfjhaaMv
import Derived.Test.YteahlnoonmfjhaaAgK
set_option linter.unusedVariables false
set_option maxRecDepth 100000
namespace Go.Proofs.Yteahlnoonmfjhaa
open Go.RowKit

theorem h05_any (n : Int) (w : World) : Calls Try.prog 38 #[.int .i64 n] w fun e w' => e = .returned (.agg #[.int .i64 0, .int .i64 n, .int .i64 0]) ∧ Below w.heap.size w w' := by
  have hg := heap_alloc_last w (.cells #[.int .i64 0, .int .i64 n, .int .i64 0] 32)
  have HG := Lib.hid hg
  clear hg
  go_enter Try.func38, Try.ntmps38
  go_wp2
  (try simp only [Exit.inBlock, Exit.then])
  refine bodyPost_ret (v := .agg #[.int .i64 0, .int .i64 n, .int .i64 0]) (results_cell_row Try.results38 _ _ _ _ _ _ _ rfl HG.out Try.underlying32 rfl (by kernel_rfl)) rfl ⟨rfl, extAl _ _⟩
theorem bytes05_any (s i g : Int) (h : hmayB s i g = true) (w : World) : Calls Try.prog 40 #[.agg #[.int .i64 s, .int .i64 i, .int .i64 g]] w fun e w' => e = .returned (.string (str (hbytes s i g))) ∧ Below w.heap.size w w' := by
  have hE := encode_any s i g
  have e : encV s i g = .tuple #[.string (str (hbytes s i g)), .int .i64 0] := by unfold encV; rw [if_pos h]
  rw [e] at hE
  generalize str (hbytes s i g) = T at *
  have HE := Lib.hid hE
  clear hE e h
  go_enter Try.func40, Try.ntmps40
  go_wp2_with (go_at_call 96; refine (HE.out _).mono ?_; rintro e w1 ⟨rfl, hb1⟩; have hz1 := hb1.size; (try simp only [World.size_alloc] at hz1))
  go_ret
  exact ⟨rfl, by (repeat' (first | (with_reducible assumption) | (with_reducible exact Below.refl _ _) | (with_reducible refine below_sc ?_ ?_) | ((with_reducible show (_ : Nat) ≤ _); omega) | refine Below.setCell ?_ (by first | omega | (simp; done) | (simp; omega)) _ | refine Below.alloc ?_ (by first | omega | (simp; done) | (simp; omega)) _ | refine Below.drew ?_ | refine below_drewN ?_ _ | refine Below.trans ?_ (Below.mono (by assumption) (by first | omega | (simp; done) | (simp; omega)))))⟩
theorem aWrite_e (p : Int) (a : AgT) (V : Value) (T : List UInt8) (E : Int) (hV : V = .agg (agC a).toArray) (h : aW p a = (T, E)) (hp : I64 p) (hk : a.Ok) (w : World) :
    Calls Try.prog 26 #[.int .i64 p, V] w fun e w' => e = .returned (.tuple #[.string (str T), .int .i64 E]) ∧ Below w.heap.size w w' := by
  subst hV
  have := aWrite_any p a w hp hk
  rw [h] at this
  exact this
theorem aHear_e (p : Int) (s : List UInt8) (S : ByteArray) (x : RsT) (E : Int) (hS : S = str s) (h : aH p s = (x, E)) (he : x.ents = []) (hp : I64 p) (hs : s.length ≤ 20000) (w : World) :
    Calls Try.prog 35 #[.int .i64 p, .string S] w fun e w' => ∃ A c, e = .returned (.tuple #[.agg (rsC x (.slice A 0 c)).toArray, .int .i64 E]) ∧ Below w.heap.size w w' := by
  subst hS
  refine (aHear_any p s w hp hs).mono ?_
  rintro e w' ⟨rv, rfl, o, k⟩
  rw [h] at o ⊢
  obtain ⟨A, c, rfl⟩ := o.form
  simp only at o
  rw [he]
  exact ⟨A, c, by rw [List.length_nil], k⟩
theorem ag_ok (n : Int) (a b c d e f : Int) (v : Int) (h1 : I64 n) (ha : I64 a) (hb : I64 b) (hc : I64 c) (hd : I64 d) (he : I64 e) (hf : I64 f) (hv : 0 ≤ v ∧ v ≤ 18446744073709551615) : AgT.Ok ⟨(0, n, 0), (0, 0, 0), [], [], [], a, b, c, d, e, f, v⟩ :=
  ⟨⟨i64_zero, h1, i64_zero⟩, ⟨i64_zero, i64_zero, i64_zero⟩, Nat.zero_le _, Nat.zero_le _, Nat.zero_le _, ha, hb, hc, hd, he, hf, hv⟩
def h7B : List UInt8 := [0, 0, 0, 1, 0, 0, 0, 0, 0, 0, 0, 7, 0, 0, 0, 0, 184, 196, 85, 106, 162, 7, 251, 179]
theorem h7B_eq : hbytes 0 7 0 = h7B := by decide +kernel
theorem i64_of (n : Int) (h : (decide (-9223372036854775808 ≤ n) && decide (n ≤ 9223372036854775807)) = true) : I64 n := by
  simpa [I64] using h
set_option maxHeartbeats 8000000 in
theorem works05_any (w : World) : Calls Try.prog 37 #[] w fun e w' => e = .returned (.bool true) ∧ Below w.heap.size w w' := by
  have K1 := Lib.hid (fun w : World => aWrite_e 1 ⟨(0, 7, 0), (0, 0, 0), [], [], [], 0, 0, 0, 0, 0, 0, 0⟩ (.agg #[.int .i64 0, .int .i64 7, .int .i64 0, .int .i64 0, .int .i64 0, .int .i64 0, .string ⟨#[]⟩, .string ⟨#[]⟩, .string ⟨#[]⟩, .int .i64 0, .int .i64 0, .int .i64 0, .int .i64 0, .int .i64 0, .int .i64 0, .int .u64 0]) h7B 0 rfl (by decide +kernel) (i64_of _ rfl) (ag_ok _ _ _ _ _ _ _ _ (i64_of _ rfl) (i64_of _ rfl) (i64_of _ rfl) (i64_of _ rfl) (i64_of _ rfl) (i64_of _ rfl) (i64_of _ rfl) (by decide)) w)
  have K2 := Lib.hid (fun w : World => aWrite_e 5 ⟨(0, 7, 0), (0, 0, 0), [], [], [], 5, 9, 0, 0, 0, 0, 0⟩ (.agg #[.int .i64 0, .int .i64 7, .int .i64 0, .int .i64 0, .int .i64 0, .int .i64 0, .string ⟨#[]⟩, .string ⟨#[]⟩, .string ⟨#[]⟩, .int .i64 5, .int .i64 9, .int .i64 0, .int .i64 0, .int .i64 0, .int .i64 0, .int .u64 0]) (h7B ++ [0, 0, 0, 0, 0, 0, 0, 5, 0, 0, 0, 0, 0, 0, 0, 9]) 0 rfl (by decide +kernel) (i64_of _ rfl) (ag_ok _ _ _ _ _ _ _ _ (i64_of _ rfl) (i64_of _ rfl) (i64_of _ rfl) (i64_of _ rfl) (i64_of _ rfl) (i64_of _ rfl) (i64_of _ rfl) (by decide)) w)
  have K3 := Lib.hid (fun w : World => aWrite_e 3 ⟨(0, 7, 0), (0, 0, 0), [], [], [], 1, 0, 0, 0, 0, 0, 0⟩ (.agg #[.int .i64 0, .int .i64 7, .int .i64 0, .int .i64 0, .int .i64 0, .int .i64 0, .string ⟨#[]⟩, .string ⟨#[]⟩, .string ⟨#[]⟩, .int .i64 1, .int .i64 0, .int .i64 0, .int .i64 0, .int .i64 0, .int .i64 0, .int .u64 0]) [] 4 rfl (by decide +kernel) (i64_of _ rfl) (ag_ok _ _ _ _ _ _ _ _ (i64_of _ rfl) (i64_of _ rfl) (i64_of _ rfl) (i64_of _ rfl) (i64_of _ rfl) (i64_of _ rfl) (i64_of _ rfl) (by decide)) w)
  have K4 := Lib.hid (fun w : World => aHear_e 1 [0, 0, 0, 54] ⟨#[0, 0, 0, 54]⟩ { rs0 with e := 54 } 0 rfl (by decide +kernel) rfl (i64_of _ rfl) (by decide) w)
  have K5 := Lib.hid (fun w : World => aHear_e 1 [0, 0, 0, 0] ⟨#[0, 0, 0, 0]⟩ rs0 4 rfl (by decide +kernel) rfl (i64_of _ rfl) (by decide) w)
  have KB := Lib.hid (fun w : World => bytes05_any 0 7 0 (by decide) w)
  rw [h7B_eq] at KB
  have hl7 : (str h7B).size = 24 := by rw [str_size]; rfl
  have hcat : str (h7B ++ [0, 0, 0, 0, 0, 0, 0, 5, 0, 0, 0, 0, 0, 0, 0, 9]) = str h7B ++ ⟨#[0, 0, 0, 0, 0, 0, 0, 5, 0, 0, 0, 0, 0, 0, 0, 9]⟩ := by decide +kernel
  rw [hcat] at K2
  generalize str h7B = T at *
  clear hcat
  have hs0 : str [] = ⟨#[]⟩ := rfl
  rw [hs0] at K3
  clear hs0
  go_enter Try.func37, Try.ntmps37
  go_upto_region 4 with (first | (go_at_call 38; with_reducible refine (h05_any _ _).mono ?_; rintro e wa ⟨rfl, ka⟩) | (go_at_call 26; with_reducible refine (K1.out _).mono ?_; rintro e wb ⟨rfl, kb⟩) | (go_at_call 26; with_reducible refine (K2.out _).mono ?_; rintro e wc ⟨rfl, kc⟩) | (go_at_call 26; with_reducible refine (K3.out _).mono ?_; rintro e wd ⟨rfl, kd⟩))
  have HX := Lib.hid (Ext.trans (Ext.trans (Ext.trans (Ext.trans (Ext.trans ‹Below w.heap.size w _› kb) ‹Below wb.heap.size wb _›) kc) ka) kd)
  clear K1 K2 K3
  go_wp2_with fail
  refine (K4.out _).mono ?_
  rintro e w4 ⟨A4, c4, rfl, k4⟩
  have HN4 := Lib.hid (new_rsV w4 { rs0 with e := 54 } A4 0 c4)
  have HG4 := Lib.hid (heap_alloc_last w4 (.cells (rsC { rs0 with e := 54 } (.slice A4 0 c4)).toArray 41))
  have HX4 := Lib.hid (Ext.trans (Ext.trans HX.out k4) (extAl w4 (.cells (rsC { rs0 with e := 54 } (.slice A4 0 c4)).toArray 41)))
  clear HX k4 K4
  go_upto_region 5 with (refine wpList_st rfl 41 (.tmp 7) (.tmp 31) rfl HN4.out ?_; simp only [Act.put]; clear HN4)
  generalize w4.alloc (.cells (rsC { rs0 with e := 54 } (.slice A4 0 c4)).toArray 41) = w5 at *
  generalize Value.agg (rsC { rs0 with e := 54 } (.slice A4 0 c4)).toArray = PV
  generalize w4.heap.size = g4 at *
  go_wp2_with fail
  refine (K5.out _).mono ?_
  rintro e w6 ⟨A6, c6, rfl, k6⟩
  have HN6 := Lib.hid (new_rsV w6 rs0 A6 0 c6)
  have HG7 := Lib.hid (Ext.blk (Ext.trans k6 (extAl w6 (.cells (rsC rs0 (.slice A6 0 c6)).toArray 41))) HG4.out)
  have HX7 := Lib.hid (Ext.trans (Ext.trans HX4.out k6) (extAl w6 (.cells (rsC rs0 (.slice A6 0 c6)).toArray 41)))
  clear HX4 HG4 k6 K5
  go_upto_region 6 with (refine wpList_st rfl 41 (.tmp 9) (.tmp 35) rfl HN6.out ?_; simp only [Act.put]; clear HN6)
  generalize w6.alloc (.cells (rsC rs0 (.slice A6 0 c6)).toArray 41) = w7 at *
  generalize Value.agg (rsC rs0 (.slice A6 0 c6)).toArray = QV
  generalize w6.heap.size = g6 at *
  have KC0 := Lib.hid (fun w : World => (show chg 6 ag0 = false by decide) ▸ aChanges_any 6 ag0 w)
  have KC1 := Lib.hid (fun w : World => (show chg 6 { ag0 with stable := 1 } = true by decide) ▸ aChanges_any 6 { ag0 with stable := 1 } w)
  go_wp2_with fail
  refine (h05_any _ _).mono ?_
  rintro e wa ⟨rfl, ka⟩
  replace HX7 := Lib.hid (Ext.trans HX7.out ka)
  replace HG7 := Lib.hid (Ext.blk ka HG7.out)
  clear ka
  go_wp2_with fail
  refine (KB.out _).mono ?_
  rintro e wb ⟨rfl, kb⟩
  replace HX7 := Lib.hid (Ext.trans HX7.out kb)
  replace HG7 := Lib.hid (Ext.blk kb HG7.out)
  clear kb
  go_wp2_with fail
  refine (h05_any _ _).mono ?_
  rintro e wa ⟨rfl, ka⟩
  replace HX7 := Lib.hid (Ext.trans HX7.out ka)
  replace HG7 := Lib.hid (Ext.blk ka HG7.out)
  clear ka
  go_wp2_with fail
  refine (KB.out _).mono ?_
  rintro e wb ⟨rfl, kb⟩
  replace HX7 := Lib.hid (Ext.trans HX7.out kb)
  replace HG7 := Lib.hid (Ext.blk kb HG7.out)
  clear kb
  obtain ⟨c0, gl⟩ := rs_cell0 HG7.out
  go_wp2_with fail
  refine (KC0.out _).mono ?_
  rintro e wc ⟨rfl, kc⟩
  replace HX7 := Lib.hid (Ext.trans HX7.out kc)
  clear kc
  go_wp2_with fail
  refine (KC1.out _).mono ?_
  rintro e wd ⟨rfl, kd⟩
  replace HX7 := Lib.hid (Ext.trans HX7.out kd)
  clear kd
  go_wp2_with fail
  go_ret
  exact ⟨rfl, HX7.out⟩
end Go.Proofs.Yteahlnoonmfjhaa
