/- Plain laws: bounds of what is told, and of what is read. -/
import Derived.Test.YteahlnoonmfjhaaAbB
import Derived.Test.YteahlnoonmfjhaaAbC
set_option linter.unusedVariables false
set_option maxRecDepth 100000
namespace Go.Proofs.Yteahlnoonmfjhaa
open Go.RowKit

def lenR (c : UInt8) : Nat := if c = 72 then 24 else if c = 65 then 60 else if c = 120 then 2052 else if c = 69 then 17668 else 8
theorem enB_le (y : EnT) (h : y.name.length ≤ 255) : (enB y).length ≤ 276 := by
  have := textL_max y.name 256 (by omega) (by decide)
  simp only [enB, List.length_append, intL_length]
  omega
theorem entsB_len : ∀ l : List EnT, (∀ y ∈ l, y.name.length ≤ 255) → (l.flatMap enB).length ≤ l.length * 276
  | [], _ => by simp
  | y :: l, h => by
    have h1 := enB_le y (h y List.mem_cons_self)
    have h2 := entsB_len l fun z hz => h z (List.mem_cons_of_mem _ hz)
    rw [List.flatMap_cons, List.length_append, List.length_cons]
    omega
theorem encR_len {c : UInt8} (hc : c ∈ lettersT) (x : RsT) : (encR x c).length ≤ lenR c := by
  unfold encR
  cases h : putR c x with
  | none => exact Nat.zero_le _
  | some y =>
    show y.length ≤ lenR c
    have hI : ∀ n : Int, some (intL n) = some y → y.length = 8 := fun n hy => by cases hy; exact intL_length n
    have hU : ∀ n : Int, some (beL n) = some y → y.length = 8 := fun n hy => by cases hy; exact beL_length n
    simp only [lettersT, List.mem_cons, List.not_mem_nil, or_false] at hc
    rcases hc with rfl | rfl | rfl | rfl | rfl | rfl | rfl | rfl | rfl
    · have hy : hB x.h = some y := h
      unfold hB at hy
      split at hy
      · simp only [Option.some.injEq] at hy; rw [← hy, hbytes_length]; decide
      · cases hy
    · have hy : (if kindB x.at_.kind = true then some (attrB x.at_) else none) = some y := h
      split at hy
      · simp only [Option.some.injEq] at hy
        have : y.length = 60 := by rw [← hy]; simp [attrB, numsL, beN_length, intL_length]
        rw [this]; decide
      · cases hy
    · have hy : tB x.text 2048 = some y := h
      unfold tB at hy
      split at hy
      · cases hy
      · simp only [Option.some.injEq] at hy
        have := textL_max x.text 2048 (by omega) (by decide)
        rw [← hy]
        show _ ≤ 2052
        omega
    · rw [hI _ h]; decide
    · rw [hI _ h]; decide
    · rw [hU _ h]; decide
    · have hy : some (beN (b2i x.end_) 4) = some y := h
      cases hy
      rw [beN_length]; decide
    · have hy : (if 64 < x.ents.length then none else if longE x.ents = true then none else some (entsB x.ents)) = some y := h
      split at hy
      · cases hy
      · rename_i h64
        split at hy
        · cases hy
        · rename_i hlo
          simp only [Option.some.injEq] at hy
          have := entsB_len x.ents (longE_iff (by simpa using hlo))
          rw [← hy]
          simp only [entsB, List.length_append, beN_length]
          show _ ≤ 17668
          omega
    · rw [hU _ h]; decide
theorem encRAll_len (x : RsT) : ∀ (l : List UInt8), (∀ c ∈ l, c ∈ lettersT) → (l.flatMap (encR x)).length ≤ (l.map lenR).sum
  | [], _ => by simp
  | c :: l, hm => by
    have h1 := encR_len (hm c List.mem_cons_self) x
    have h2 := encRAll_len x l fun d hd => hm d (List.mem_cons_of_mem _ hd)
    rw [List.flatMap_cons, List.length_append, List.map_cons, List.sum_cons]
    omega
theorem told_sum {p : Int} {l : List UInt8} (h : toldL p = some l) : (l.map lenR).sum ≤ 19000 := by
  have key : ∀ i : Nat, i < 19 → ∀ l, toldL (i : Int) = some l → (l.map lenR).sum ≤ 19000 := by
    intro i hi l hl
    have : i = 0 ∨ i = 1 ∨ i = 2 ∨ i = 3 ∨ i = 4 ∨ i = 5 ∨ i = 6 ∨ i = 7 ∨ i = 8 ∨ i = 9 ∨ i = 10 ∨ i = 11 ∨ i = 12 ∨ i = 13 ∨ i = 14 ∨ i = 15 ∨ i = 16 ∨ i = 17 ∨ i = 18 := by omega
    rcases this with rfl | rfl | rfl | rfl | rfl | rfl | rfl | rfl | rfl | rfl | rfl | rfl | rfl | rfl | rfl | rfl | rfl | rfl | rfl <;> (cases hl; decide)
  by_cases hp : 0 ≤ p ∧ p < 19
  · obtain ⟨i, rfl⟩ : ∃ i : Nat, p = i := ⟨p.toNat, by omega⟩
    exact key i (by omega) l h
  · exfalso
    have : toldL p = none := by
      unfold toldL
      repeat (rw [if_neg (by omega)])
    rw [this] at h
    cases h
theorem aT_len (p : Int) (x : RsT) : (aT p x).1.length ≤ 20000 := by
  cases hl : toldL p with
  | none =>
    unfold aT
    rw [hl]
    exact Nat.zero_le _
  | some l =>
    obtain ⟨hn, f1, -⟩ := told_set hl
    have hm := (toldL_mem hl).1
    have hs := told_sum hl
    by_cases he : x.e < 0 ∨ 63 < x.e
    · unfold aT
      rw [hl]
      simp only
      rw [if_pos he]
      exact Nat.zero_le _
    · have e : aT p x = finT (putAllR (if x.e = 0 then l else []) { x with e := 0 } (beN x.e 4)) := by
        unfold aT
        rw [hl]
        simp only
        rw [if_neg he]
        rfl
      by_cases h0 : x.e = 0
      · rw [if_pos h0, finT_eq l _ _ hn hm] at e
        rw [e]
        split
        · have := encRAll_len { x with e := 0 } l hm
          rw [List.length_append, beN_length]
          omega
        · exact Nat.zero_le _
      · rw [if_neg h0, finT_eq [] _ _ List.nodup_nil (fun c hc => by cases hc)] at e
        rw [e]
        split
        · rw [List.length_append, beN_length]
          show 4 + 0 ≤ 20000
          omega
        · exact Nat.zero_le _
theorem gtA_ok {c : UInt8} (s : St) (b : Bool) {a : AgT} (h : a.Ok) : (gtA c s b a).2.2.Ok := by
  have h1 := rdT_max s 255 (by decide)
  have h2 := rdT_max s 2048 (by decide)
  have hL := rdL_bd s
  unfold gtA
  by_cases e0 : c = 72
  · rw [if_pos e0]; exact { h with h := dec_I64 _ }
  rw [if_neg e0]
  by_cases e1 : c = 84
  · rw [if_pos e1]; exact { h with t := dec_I64 _ }
  rw [if_neg e1]
  by_cases e2 : c = 110
  · rw [if_pos e2]; exact { h with name := (by simp only; omega) }
  rw [if_neg e2]
  by_cases e3 : c = 111
  · rw [if_pos e3]; exact { h with other := (by simp only; omega) }
  rw [if_neg e3]
  by_cases e4 : c = 120
  · rw [if_pos e4]; exact { h with text := (by simp only; omega) }
  rw [if_neg e4]
  by_cases e5 : c = 112
  · rw [if_pos e5]; exact { h with at_ := wrap64_I64 _ }
  rw [if_neg e5]
  by_cases e6 : c = 78
  · rw [if_pos e6]; exact { h with n := wrap64_I64 _ }
  rw [if_neg e6]
  by_cases e7 : c = 109
  · rw [if_pos e7]; exact { h with mode := wrap64_I64 _ }
  rw [if_neg e7]
  by_cases e8 : c = 115
  · rw [if_pos e8]; exact { h with size := wrap64_I64 _ }
  rw [if_neg e8]
  by_cases e9 : c = 98
  · rw [if_pos e9]; exact { h with stable := wrap64_I64 _ }
  rw [if_neg e9]
  by_cases e10 : c = 103
  · rw [if_pos e10]; exact { h with guard := wrap64_I64 _ }
  rw [if_neg e10]
  by_cases e11 : c = 118
  · rw [if_pos e11]; exact { h with verf := hL }
  rw [if_neg e11]
  exact h
theorem gtAll_ok : ∀ (l : List UInt8) (s : St) (a : AgT) (y : St × AgT), a.Ok → gtAll l s a = some y → y.2.Ok
  | [], s, a, y, h, e => by
    simp only [gtAll, Option.some.injEq] at e
    subst e
    exact h
  | c :: l, s, a, y, h, e => by
    unfold gtAll at e
    split at e
    · exact gtAll_ok l _ _ y (gtA_ok s false h) e
    · cases e
theorem ag0_ok : ag0.Ok := ⟨⟨i64_zero, i64_zero, i64_zero⟩, ⟨i64_zero, i64_zero, i64_zero⟩, Nat.zero_le _, Nat.zero_le _, Nat.zero_le _, i64_zero, i64_zero, i64_zero, i64_zero, i64_zero, i64_zero, ⟨Int.le_refl _, (by show (0 : Int) ≤ 18446744073709551615; decide)⟩⟩
theorem aR_ok (p : Int) (s : List UInt8) : (aR p s).1.Ok := by
  unfold aR
  cases hl : askedL p with
  | none => exact ag0_ok
  | some l =>
    show (endA (gtAll l (some s) ag0)).1.Ok
    cases hg : gtAll l (some s) ag0 with
    | none => exact ag0_ok
    | some y =>
      have := gtAll_ok l _ _ y ag0_ok hg
      simp only [endA]
      split
      · exact this
      · exact ag0_ok
end Go.Proofs.Yteahlnoonmfjhaa
