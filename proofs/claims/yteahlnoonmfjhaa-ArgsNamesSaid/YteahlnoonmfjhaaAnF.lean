/- ArgsNames: what is told of bad bytes. -/
import Derived.Test.YteahlnoonmfjhaaAnE
set_option linter.unusedVariables false
set_option maxRecDepth 100000
namespace Go.Proofs.Yteahlnoonmfjhaa
open Go.RowKit

theorem read_k (p : Int) (s : List UInt8) (S : ByteArray) (E : Int) (hS : S = str s) (hE : (aR p s).2 = E) (hp : I64 p) (hs : s.length ≤ 20000) :
    ∃ (V : Value) (cs : Array Value), (∀ w : World, Calls Try.prog 28 #[.int .i64 p, .string S] w fun e w' => e = .returned (.tuple #[V, .int .i64 E]) ∧ Ext w w') ∧
      ∀ u : World, (Instr.storeAt 35 (.pointer (some ⟨u.heap.size, 0, none⟩)) V).run Try.prog (u.alloc (.cells #[.int .i64 0, .int .i64 0, .int .i64 0, .int .i64 0, .int .i64 0, .int .i64 0, .string ⟨#[]⟩, .string ⟨#[]⟩, .string ⟨#[]⟩, .int .i64 0, .int .i64 0, .int .i64 0, .int .i64 0, .int .i64 0, .int .i64 0, .int .u64 0] 35)) = .ok () (u.alloc (.cells cs 35)) :=
  ⟨_, _, fun w => aRead_e p s S (aR p s).1 E hS (by rw [← hE]) hp hs w, fun u => new_ag05 u (aR p s).1⟩
theorem hear_k (p : Int) (s : List UInt8) (S : ByteArray) (E : Int) (hS : S = str s) (hE : (aH p s).2 = E) (hp : I64 p) (hs : s.length ≤ 20000) (w : World) :
    Calls Try.prog 35 #[.int .i64 p, .string S] w fun e w' => ∃ (V : Value) (cs : Array Value), e = .returned (.tuple #[V, .int .i64 E]) ∧
      (∀ u : World, (Instr.storeAt 41 (.pointer (some ⟨u.heap.size, 0, none⟩)) V).run Try.prog (u.alloc (.cells #[.int .i64 0, .int .i64 0, .int .i64 0, .int .i64 0, .int .u8 0, .int .i64 0, .int .i64 0, .int .i64 0, .int .i64 0, .int .i64 0, .int .i64 0, .int .i64 0, .string ⟨#[]⟩, .int .i64 0, .int .i64 0, .int .u64 0, .bool false, .slice none 0 0, .int .u64 0] 41)) = .ok () (u.alloc (.cells cs 41))) ∧ Ext w w' := by
  subst hS hE
  refine (aHear_any p s w hp hs).mono ?_
  rintro e w' ⟨rv, rfl, o, k⟩
  obtain ⟨A, c, rfl⟩ := o.form
  exact ⟨_, _, rfl, fun u => new_rsV u (aH p s).1 A _ c, k⟩
theorem word_k (n : Int) (S : ByteArray) (hS : S = str (beN n 4)) (h0 : 0 ≤ n) (h1 : n ≤ 4294967295) (w : World) :
    Calls Try.prog 44 #[.slice none 0 0, .int .u32 n] w fun e w' => ∃ A k c, e = .returned (.slice A k c) ∧ (∀ u, Ext w' u → (convert 47 9 (.slice A k c)).run Try.prog u = .ok (.string S) u) ∧ Ext w w' := by
  subst hS
  refine (Word_any (.slice none 0 0) [] n w RS.nil h0 h1 (by decide)).mono ?_
  rintro e w' ⟨v, rfl, ho, hx⟩
  have h := ho.rs
  obtain ⟨A, c, rfl⟩ := h.form
  refine ⟨A, _, c, rfl, fun u hu => ?_, hx⟩
  have hcv := RS.conv (h.ext hu) Try.underlying47 Try.underlying5 Try.underlying9
  rw [List.nil_append] at hcv
  exact hcv
def wideL : List UInt8 := beN 0 4 ++ beN 258 4 ++ zr 56
def wide7 : List UInt8 := [0, 0, 0, 0] ++ beN 65 4
def wide1 : List UInt8 := hbytes 0 1 0 ++ [0]
theorem b1 : (aR 1 wide1).2 = 4 := by decide +kernel
theorem b2 : (aR 1 (zr 24)).2 = 4 := by decide +kernel
theorem b3 : (aR 19 []).2 = 62 := by decide +kernel
theorem b4 : (aH (-1) []).2 = 62 := by decide +kernel
theorem b5 : (aH 0 [0, 0, 0, 0, 0, 0, 0, 0]).2 = 4 := by decide +kernel
theorem b6 : (aH 16 []).2 = 4 := by decide +kernel
theorem b7 : (aH 14 wide7).2 = 4 := by decide +kernel
theorem b8 : (aH 1 wideL).2 = 4 := by decide +kernel
structure Bad (S5 S6 T U Y0 Y Z0 Z1 ZA Z : ByteArray) (V1 V2 V3 : Value) (c1 c2 c3 : Array Value) : Prop where
  kT : ∀ w, Calls Try.prog 40 #[.agg #[.int .i64 0, .int .i64 1, .int .i64 0]] w fun e w' => e = .returned (.string T) ∧ Ext w w'
  eU : T ++ ⟨#[0]⟩ = U
  sT : T.size = 24
  e7 : ⟨#[0, 0, 0, 0]⟩ ++ Y0 = Y
  sY0 : Y0.size = 4
  e8a : Z0 ++ Z1 = ZA
  e8 : ZA ++ S6 = Z
  sZ0 : Z0.size = 4
  sZ1 : Z1.size = 4
  sZA : ZA.size = 8
  sS6 : S6.size = 56
  r1 : ∀ w : World, Calls Try.prog 28 #[.int .i64 1, .string U] w fun e w' => e = .returned (.tuple #[V1, .int .i64 4]) ∧ Ext w w'
  t1 : ∀ u : World, (Instr.storeAt 35 (.pointer (some ⟨u.heap.size, 0, none⟩)) V1).run Try.prog (u.alloc (.cells #[.int .i64 0, .int .i64 0, .int .i64 0, .int .i64 0, .int .i64 0, .int .i64 0, .string ⟨#[]⟩, .string ⟨#[]⟩, .string ⟨#[]⟩, .int .i64 0, .int .i64 0, .int .i64 0, .int .i64 0, .int .i64 0, .int .i64 0, .int .u64 0] 35)) = .ok () (u.alloc (.cells c1 35))
  r2 : ∀ w : World, Calls Try.prog 28 #[.int .i64 1, .string S5] w fun e w' => e = .returned (.tuple #[V2, .int .i64 4]) ∧ Ext w w'
  t2 : ∀ u : World, (Instr.storeAt 35 (.pointer (some ⟨u.heap.size, 0, none⟩)) V2).run Try.prog (u.alloc (.cells #[.int .i64 0, .int .i64 0, .int .i64 0, .int .i64 0, .int .i64 0, .int .i64 0, .string ⟨#[]⟩, .string ⟨#[]⟩, .string ⟨#[]⟩, .int .i64 0, .int .i64 0, .int .i64 0, .int .i64 0, .int .i64 0, .int .i64 0, .int .u64 0] 35)) = .ok () (u.alloc (.cells c2 35))
  r3 : ∀ w : World, Calls Try.prog 28 #[.int .i64 19, .string ⟨#[]⟩] w fun e w' => e = .returned (.tuple #[V3, .int .i64 62]) ∧ Ext w w'
  t3 : ∀ u : World, (Instr.storeAt 35 (.pointer (some ⟨u.heap.size, 0, none⟩)) V3).run Try.prog (u.alloc (.cells #[.int .i64 0, .int .i64 0, .int .i64 0, .int .i64 0, .int .i64 0, .int .i64 0, .string ⟨#[]⟩, .string ⟨#[]⟩, .string ⟨#[]⟩, .int .i64 0, .int .i64 0, .int .i64 0, .int .i64 0, .int .i64 0, .int .i64 0, .int .u64 0] 35)) = .ok () (u.alloc (.cells c3 35))
  h4 : ∀ w : World, Calls Try.prog 35 #[.int .i64 (-1), .string ⟨#[]⟩] w fun e w' => ∃ (V : Value) (cs : Array Value), e = .returned (.tuple #[V, .int .i64 62]) ∧ (∀ u : World, (Instr.storeAt 41 (.pointer (some ⟨u.heap.size, 0, none⟩)) V).run Try.prog (u.alloc (.cells #[.int .i64 0, .int .i64 0, .int .i64 0, .int .i64 0, .int .u8 0, .int .i64 0, .int .i64 0, .int .i64 0, .int .i64 0, .int .i64 0, .int .i64 0, .int .i64 0, .string ⟨#[]⟩, .int .i64 0, .int .i64 0, .int .u64 0, .bool false, .slice none 0 0, .int .u64 0] 41)) = .ok () (u.alloc (.cells cs 41))) ∧ Ext w w'
  h5 : ∀ w : World, Calls Try.prog 35 #[.int .i64 0, .string ⟨#[0, 0, 0, 0, 0, 0, 0, 0]⟩] w fun e w' => ∃ (V : Value) (cs : Array Value), e = .returned (.tuple #[V, .int .i64 4]) ∧ (∀ u : World, (Instr.storeAt 41 (.pointer (some ⟨u.heap.size, 0, none⟩)) V).run Try.prog (u.alloc (.cells #[.int .i64 0, .int .i64 0, .int .i64 0, .int .i64 0, .int .u8 0, .int .i64 0, .int .i64 0, .int .i64 0, .int .i64 0, .int .i64 0, .int .i64 0, .int .i64 0, .string ⟨#[]⟩, .int .i64 0, .int .i64 0, .int .u64 0, .bool false, .slice none 0 0, .int .u64 0] 41)) = .ok () (u.alloc (.cells cs 41))) ∧ Ext w w'
  h6 : ∀ w : World, Calls Try.prog 35 #[.int .i64 16, .string ⟨#[]⟩] w fun e w' => ∃ (V : Value) (cs : Array Value), e = .returned (.tuple #[V, .int .i64 4]) ∧ (∀ u : World, (Instr.storeAt 41 (.pointer (some ⟨u.heap.size, 0, none⟩)) V).run Try.prog (u.alloc (.cells #[.int .i64 0, .int .i64 0, .int .i64 0, .int .i64 0, .int .u8 0, .int .i64 0, .int .i64 0, .int .i64 0, .int .i64 0, .int .i64 0, .int .i64 0, .int .i64 0, .string ⟨#[]⟩, .int .i64 0, .int .i64 0, .int .u64 0, .bool false, .slice none 0 0, .int .u64 0] 41)) = .ok () (u.alloc (.cells cs 41))) ∧ Ext w w'
  h7 : ∀ w : World, Calls Try.prog 35 #[.int .i64 14, .string Y] w fun e w' => ∃ (V : Value) (cs : Array Value), e = .returned (.tuple #[V, .int .i64 4]) ∧ (∀ u : World, (Instr.storeAt 41 (.pointer (some ⟨u.heap.size, 0, none⟩)) V).run Try.prog (u.alloc (.cells #[.int .i64 0, .int .i64 0, .int .i64 0, .int .i64 0, .int .u8 0, .int .i64 0, .int .i64 0, .int .i64 0, .int .i64 0, .int .i64 0, .int .i64 0, .int .i64 0, .string ⟨#[]⟩, .int .i64 0, .int .i64 0, .int .u64 0, .bool false, .slice none 0 0, .int .u64 0] 41)) = .ok () (u.alloc (.cells cs 41))) ∧ Ext w w'
  h8 : ∀ w : World, Calls Try.prog 35 #[.int .i64 1, .string Z] w fun e w' => ∃ (V : Value) (cs : Array Value), e = .returned (.tuple #[V, .int .i64 4]) ∧ (∀ u : World, (Instr.storeAt 41 (.pointer (some ⟨u.heap.size, 0, none⟩)) V).run Try.prog (u.alloc (.cells #[.int .i64 0, .int .i64 0, .int .i64 0, .int .i64 0, .int .u8 0, .int .i64 0, .int .i64 0, .int .i64 0, .int .i64 0, .int .i64 0, .int .i64 0, .int .i64 0, .string ⟨#[]⟩, .int .i64 0, .int .i64 0, .int .u64 0, .bool false, .slice none 0 0, .int .u64 0] 41)) = .ok () (u.alloc (.cells cs 41))) ∧ Ext w w'
  w7 : ∀ w : World, Calls Try.prog 44 #[.slice none 0 0, .int .u32 65] w fun e w' => ∃ A k c, e = .returned (.slice A k c) ∧ (∀ u, Ext w' u → (convert 47 9 (.slice A k c)).run Try.prog u = .ok (.string Y0) u) ∧ Ext w w'
  w8 : ∀ w : World, Calls Try.prog 44 #[.slice none 0 0, .int .u32 0] w fun e w' => ∃ A k c, e = .returned (.slice A k c) ∧ (∀ u, Ext w' u → (convert 47 9 (.slice A k c)).run Try.prog u = .ok (.string Z0) u) ∧ Ext w w'
  w9 : ∀ w : World, Calls Try.prog 44 #[.slice none 0 0, .int .u32 258] w fun e w' => ∃ A k c, e = .returned (.slice A k c) ∧ (∀ u, Ext w' u → (convert 47 9 (.slice A k c)).run Try.prog u = .ok (.string Z1) u) ∧ Ext w w'
theorem bad {S5 S6 : ByteArray} (h5 : S5 = str (zr 24)) (h6 : S6 = str (zr 56)) : ∃ T U Y0 Y Z0 Z1 ZA Z V1 V2 V3 c1 c2 c3, Bad S5 S6 T U Y0 Y Z0 Z1 ZA Z V1 V2 V3 c1 c2 c3 := by
  obtain ⟨V1, c1, r1, t1⟩ := read_k 1 wide1 (str wide1) 4 rfl b1 (by simp [I64]) (by decide +kernel)
  obtain ⟨V2, c2, r2, t2⟩ := read_k 1 (zr 24) S5 4 h5 b2 (by simp [I64]) (by decide +kernel)
  obtain ⟨V3, c3, r3, t3⟩ := read_k 19 [] ⟨#[]⟩ 62 rfl b3 (by simp [I64]) (by decide +kernel)
  exact ⟨str (hbytes 0 1 0), str wide1, str (beN 65 4), str wide7, str (beN 0 4), str (beN 258 4), str (beN 0 4 ++ beN 258 4), str wideL, V1, V2, V3, c1, c2, c3,
    { kT := fun w => bytes05_any 0 1 0 (by decide) w
      eU := str_append _ [0]
      sT := by rw [str_size]; decide +kernel
      e7 := str_append [0, 0, 0, 0] _
      sY0 := by rw [str_size]; decide +kernel
      e8a := str_append _ _
      e8 := by rw [h6]; exact str_append _ _
      sZ0 := by rw [str_size]; decide +kernel
      sZ1 := by rw [str_size]; decide +kernel
      sZA := by rw [str_size]; decide +kernel
      sS6 := by rw [h6, str_size]; decide +kernel
      r1 := r1
      t1 := t1
      r2 := r2
      t2 := t2
      r3 := r3
      t3 := t3
      h4 := hear_k (-1) [] ⟨#[]⟩ 62 rfl b4 (by simp [I64]) (by decide +kernel)
      h5 := hear_k 0 [0, 0, 0, 0, 0, 0, 0, 0] ⟨#[0, 0, 0, 0, 0, 0, 0, 0]⟩ 4 rfl b5 (by simp [I64]) (by decide +kernel)
      h6 := hear_k 16 [] ⟨#[]⟩ 4 rfl b6 (by simp [I64]) (by decide +kernel)
      h7 := hear_k 14 wide7 (str wide7) 4 rfl b7 (by simp [I64]) (by decide +kernel)
      h8 := hear_k 1 wideL (str wideL) 4 rfl b8 (by simp [I64]) (by decide +kernel)
      w7 := word_k 65 _ rfl (by decide) (by decide)
      w8 := word_k 0 _ rfl (by decide) (by decide)
      w9 := word_k 258 _ rfl (by decide) (by decide) }⟩
theorem chg_k (p : Int) (b : Bool) (h : chg p ag0 = b) (w : World) : Calls Try.prog 30 #[.int .i64 p, .agg #[.int .i64 0, .int .i64 0, .int .i64 0, .int .i64 0, .int .i64 0, .int .i64 0, .string ⟨#[]⟩, .string ⟨#[]⟩, .string ⟨#[]⟩, .int .i64 0, .int .i64 0, .int .i64 0, .int .i64 0, .int .i64 0, .int .i64 0, .int .u64 0]] w fun e w' => e = .returned (.bool b) ∧ Ext w w' := by
  subst h
  exact aChanges_any p ag0 w
theorem chg_cases (p : Int) : (p = 2 ∧ chg p ag0 = true) ∨ (p ≠ 2 ∧ 7 ≤ p ∧ p ≤ 13 ∧ chg p ag0 = true) ∨ (p = 17 ∧ chg p ag0 = true) ∨ (p = 18 ∧ chg p ag0 = true) ∨
    (p ≠ 2 ∧ 7 ≤ p ∧ ¬ p ≤ 13 ∧ p ≠ 17 ∧ p ≠ 18 ∧ chg p ag0 = false) ∨ (p ≠ 2 ∧ ¬ 7 ≤ p ∧ p ≠ 17 ∧ p ≠ 18 ∧ chg p ag0 = false) := by
  by_cases h6 : p = 6
  · subst h6
    exact .inr (.inr (.inr (.inr (.inr ⟨by decide, by decide, by decide, by decide, rfl⟩))))
  · have e : chg p ag0 = decide (p = 2 ∨ (7 ≤ p ∧ p ≤ 13) ∨ p = 17 ∨ p = 18) := by unfold chg; rw [if_neg h6]
    rw [e]
    simp only [decide_eq_true_eq, decide_eq_false_iff_not]
    omega
end Go.Proofs.Yteahlnoonmfjhaa
