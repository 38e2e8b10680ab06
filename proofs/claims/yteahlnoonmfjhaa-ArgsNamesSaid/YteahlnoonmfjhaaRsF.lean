/- Results: Tell. -/
import Derived.Test.YteahlnoonmfjhaaRsE
set_option linter.unusedVariables false
set_option maxRecDepth 100000
namespace Go.Proofs.Yteahlnoonmfjhaa
open Go.RowKit

theorem enB_all : ∀ (l : List EnT), (∀ y ∈ l, y.name.length ≤ 255) → (l.flatMap enB).length ≤ l.length * 280
  | [], _ => Nat.le_refl _
  | y :: l, h => by
    have h1 := enB_all l fun z hz => h z (List.mem_cons_of_mem _ hz)
    have h2 := textL_length y.name
    have h3 := h y List.mem_cons_self
    simp only [List.flatMap_cons, List.length_append, enB, intL_length, List.length_cons] at h1 ⊢
    omega
theorem putR_length {c : UInt8} {x : RsT} {y : List UInt8} (hc : c ∈ lettersT) (h : putR c x = some y) : y.length ≤ 20000 := by
  have hT : ∀ (s : List UInt8) m, m ≤ 2048 → tB s m = some y → y.length ≤ 20000 := fun s m hs hy => by
    unfold tB at hy
    split at hy
    · cases hy
    · cases hy; have := textL_length s; omega
  have hI : ∀ n : Int, some (intL n) = some y → y.length ≤ 20000 := fun n hy => by cases hy; rw [intL_length]; omega
  have hL : ∀ n : Int, some (beL n) = some y → y.length ≤ 20000 := fun n hy => by cases hy; rw [beL_length]; omega
  simp only [lettersT, List.mem_cons, List.not_mem_nil, or_false] at hc
  rcases hc with rfl | rfl | rfl | rfl | rfl | rfl | rfl | rfl | rfl
  · have h : hB x.h = some y := h
    unfold hB at h
    split at h
    · cases h; rw [hbytes_length]; omega
    · cases h
  · have h : (if kindB x.at_.kind = true then some (attrB x.at_) else none) = some y := h
    split at h
    · cases h; simp [attrB, numsL, beN_length, intL_length]
    · cases h
  · exact hT _ 2048 (Nat.le_refl _) h
  · exact hI _ h
  · exact hI _ h
  · exact hL _ h
  · have h : some (beN (b2i x.end_) 4) = some y := h
    cases h; simp [beN_length]
  · have h : (if 64 < x.ents.length then none else if longE x.ents = true then none else some (entsB x.ents)) = some y := h
    split at h
    · cases h
    · split at h
      · cases h
      · rename_i h1 h2
        cases h
        have := enB_all x.ents fun z hz => by
          by_cases hl : 255 < z.name.length
          · exact absurd (List.any_eq_true.2 ⟨z, hz, by simpa using hl⟩) h2
          · omega
        simp only [entsB, List.length_append, beN_length]
        omega
  · exact hL _ h
theorem clrR_ok {c : UInt8} {x : RsT} (h : x.Okw) : (clrR c x).Okw := by
  unfold clrR
  repeat' split
  all_goals first
    | exact h
    | exact { h with h := ⟨i64_zero, i64_zero, i64_zero⟩ }
    | exact { h with at_ := ⟨⟨Int.le_refl _, (by show (0 : Int) ≤ 255; decide)⟩, i64_zero, i64_zero, i64_zero, i64_zero, i64_zero, i64_zero, i64_zero⟩ }
    | exact { h with text := Nat.zero_le _ }
    | exact { h with n := i64_zero }
    | exact { h with free := i64_zero }
    | exact { h with used := ⟨Int.le_refl _, (by show (0 : Int) ≤ 18446744073709551615; decide)⟩ }
    | exact { h with verf := ⟨Int.le_refl _, (by show (0 : Int) ≤ 18446744073709551615; decide)⟩ }
    | exact { h with each := (fun y hy => by cases hy), ents := Nat.zero_le _ }
    | exact { h with }
theorem clr_ents {c : UInt8} {x : RsT} {v : Value} (hc : c ∈ lettersT) : (c = 69 ∧ (clrR c x).ents = [] ∧ clrV c v = .slice none 0 0) ∨ ((clrR c x).ents = x.ents ∧ clrV c v = v) := by
  simp only [lettersT, List.mem_cons, List.not_mem_nil, or_false] at hc
  rcases hc with rfl | rfl | rfl | rfl | rfl | rfl | rfl | rfl | rfl <;> first | exact .inr ⟨rfl, rfl⟩ | exact .inl ⟨rfl, rfl, rfl⟩
theorem ldRs {w : World} {g : Nat} {x : RsT} {v : Value} (h : w.heap[g]? = some (.cells (rsC x v).toArray 41 (0, 0))) : (Instr.loadAt 41 (.pointer (some ⟨g, 0, none⟩))).run Try.prog w = .ok (.agg (rsC x v).toArray) w :=
  loadAt_cs (P := Try.prog) Try.underlying41 (by kernel_rfl) fun j hj => by
    rw [cell_of_row _ _ _ _ _ _ h, Nat.zero_add, List.getElem?_toArray, List.getElem?_eq_getElem hj]
def finT : Option (List UInt8 × RsT) → List UInt8 × Int
  | none => ([], 4)
  | some r => if r.2 = rs0 then (r.1, 0) else ([], 4)
end Go.Proofs.Yteahlnoonmfjhaa
