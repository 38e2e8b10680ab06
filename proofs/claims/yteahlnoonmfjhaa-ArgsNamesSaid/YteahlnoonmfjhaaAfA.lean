/- Arguments, by the document: has, Asks, Tells (printed by gen_afa.py). -/
import Derived.Test.YteahlnoonmfjhaaAgE
set_option linter.unusedVariables false
set_option maxRecDepth 100000
namespace Go.Proofs.Yteahlnoonmfjhaa
open Go.RowKit

def hasL (l : List UInt8) (c : UInt8) : Bool := decide (c ∈ l)
theorem u8_inj {x y : UInt8} : ((x.toNat : Int) = (y.toNat : Int)) ↔ x = y := by
  constructor
  · intro h
    have : x.toNat = y.toNat := by omega
    exact UInt8.toNat_inj.1 this
  · rintro rfl; rfl
theorem rhas_any (l : List UInt8) (c : UInt8) (w : World) (hl : l.length ≤ 100) : Calls Try.prog 118 #[.string (str l), .int .u8 c.toNat] w fun e w' => e = .returned (.bool (hasL l c)) ∧ w' = w := by
  have hsz := str_size l
  obtain ⟨cn, hcn⟩ : ∃ cn : Int, (c.toNat : Int) = cn := ⟨_, rfl⟩
  rw [hcn]
  have HC := Lib.hid hcn
  clear hcn
  obtain ⟨R, hR⟩ : ∃ R, hasL l c = R := ⟨_, rfl⟩
  rw [hR]
  have HR := Lib.hid hR
  clear hR
  go_enter Try.func118, Try.ntmps118
  go_wp2_with fail
  go_loopw [5] (fun iv wr => ∃ k : Nat, k ≤ l.length ∧ iv = .int .i64 k ∧ Hid (∀ j, j < k → l[j]? ≠ some c) ∧ Hid (w = wr)) (fun iv _ => l.length - (intOf iv).toNat)
  case atStart => exact ⟨0, Nat.zero_le _, rfl, Lib.hid (fun j hj => by omega), Lib.hid rfl⟩
  case round =>
    obtain ⟨k, hk, rfl, HN, HW⟩ := hrel
    by_cases hkl : k < l.length
    · have hks : k < (str l).size := by omega
      have hb := ((str l)[k]).toNat_lt
      by_cases he : ((((str l)[k]).toNat : Nat) : Int) = cn
      · have hR1 : R = true := by
          rw [← HR.out]
          unfold hasL
          apply decide_eq_true
          have h1 : (str l)[k] = c := u8_inj.1 (he.trans HC.out.symm)
          rw [← h1, str_get]
          exact List.getElem_mem _
        subst hR1
        go_wp2_with fail
        go_ret
        exact ⟨rfl, HW.out.symm⟩
      · have HE := Lib.hid he
        go_wp2_with fail
        go_roundw
        case rel => exact ⟨k + 1, by omega, by go_num, Lib.hid (fun j hj => by
          by_cases e : j < k
          · exact HN.out j e
          · obtain rfl : j = k := by omega
            rw [List.getElem?_eq_getElem hkl]
            intro h
            simp only [Option.some.injEq] at h
            exact HE.out (by rw [← HC.out, ← h, str_get])), HW⟩
        case measure => simp only [intOf]; omega
    · obtain rfl : k = l.length := by omega
      have hR0 : R = false := by
        rw [← HR.out]
        unfold hasL
        apply decide_eq_false
        intro hm
        obtain ⟨j, hj, h⟩ := List.getElem_of_mem hm
        exact HN.out j hj (by rw [List.getElem?_eq_getElem hj, h])
      subst hR0
      go_wp2_with fail
      go_ret
      exact ⟨rfl, HW.out.symm⟩
def rAskL (p : Int) : List UInt8 := if p = 18 then [72, 110] else if p = 17 then [72, 110] else if p = 16 then [72] else if p = 15 then [72] else if p = 14 then [72, 97, 78, 118] else if p = 13 then [72, 84, 110] else if p = 12 then [72, 110, 84, 111] else if p = 11 then [72, 110] else if p = 10 then [72, 110] else if p = 9 then [72, 110, 116] else if p = 8 then [72, 110, 109] else if p = 7 then [72, 110, 109, 103] else if p = 6 then [72, 97, 83, 116] else if p = 5 then [72, 97, 78] else if p = 4 then [72] else if p = 3 then [72, 110] else if p = 2 then [72, 109, 115, 103] else if p = 1 then [72] else if p = 0 then [] else []
theorem rAskL_any (p : Nat) (hp : p < 19) (w : World) : Calls Try.prog 66 #[.int .i64 p] w fun e w' => e = .returned (.string (str (rAskL p))) ∧ Below w.heap.size w w' := by
  have h : p = 0 ∨ p = 1 ∨ p = 2 ∨ p = 3 ∨ p = 4 ∨ p = 5 ∨ p = 6 ∨ p = 7 ∨ p = 8 ∨ p = 9 ∨ p = 10 ∨ p = 11 ∨ p = 12 ∨ p = 13 ∨ p = 14 ∨ p = 15 ∨ p = 16 ∨ p = 17 ∨ p = 18 := by omega
  have cell : (w.alloc (.cells #[.string ⟨#[]⟩, .string ⟨#[72]⟩, .string ⟨#[72, 109, 115, 103]⟩, .string ⟨#[72, 110]⟩, .string ⟨#[72]⟩, .string ⟨#[72, 97, 78]⟩, .string ⟨#[72, 97, 83, 116]⟩, .string ⟨#[72, 110, 109, 103]⟩, .string ⟨#[72, 110, 109]⟩, .string ⟨#[72, 110, 116]⟩, .string ⟨#[72, 110]⟩, .string ⟨#[72, 110]⟩, .string ⟨#[72, 110, 84, 111]⟩, .string ⟨#[72, 84, 110]⟩, .string ⟨#[72, 97, 78, 118]⟩, .string ⟨#[72]⟩, .string ⟨#[72]⟩, .string ⟨#[72, 110]⟩, .string ⟨#[72, 110]⟩] 9)).cell? ⟨w.heap.size, p, none⟩ = some (.string (str (rAskL p))) := by
    rw [cell_of_row _ _ _ _ _ _ (heap_alloc_last w _)]
    rcases h with rfl | rfl | rfl | rfl | rfl | rfl | rfl | rfl | rfl | rfl | rfl | rfl | rfl | rfl | rfl | rfl | rfl | rfl | rfl <;> rfl
  have hp0 : (p : Int) < 19 := by omega
  clear h
  generalize str (rAskL p) = S at *
  go_enter Try.func66, Try.ntmps66
  go_wp2
  go_ret
  exact ⟨rfl, extAl w _⟩
theorem rAskL_len (p : Int) : (rAskL p).length ≤ 4 := by
  unfold rAskL
  by_cases h18 : p = 18
  · rw [if_pos h18]; decide
  rw [if_neg h18]
  by_cases h17 : p = 17
  · rw [if_pos h17]; decide
  rw [if_neg h17]
  by_cases h16 : p = 16
  · rw [if_pos h16]; decide
  rw [if_neg h16]
  by_cases h15 : p = 15
  · rw [if_pos h15]; decide
  rw [if_neg h15]
  by_cases h14 : p = 14
  · rw [if_pos h14]; decide
  rw [if_neg h14]
  by_cases h13 : p = 13
  · rw [if_pos h13]; decide
  rw [if_neg h13]
  by_cases h12 : p = 12
  · rw [if_pos h12]; decide
  rw [if_neg h12]
  by_cases h11 : p = 11
  · rw [if_pos h11]; decide
  rw [if_neg h11]
  by_cases h10 : p = 10
  · rw [if_pos h10]; decide
  rw [if_neg h10]
  by_cases h9 : p = 9
  · rw [if_pos h9]; decide
  rw [if_neg h9]
  by_cases h8 : p = 8
  · rw [if_pos h8]; decide
  rw [if_neg h8]
  by_cases h7 : p = 7
  · rw [if_pos h7]; decide
  rw [if_neg h7]
  by_cases h6 : p = 6
  · rw [if_pos h6]; decide
  rw [if_neg h6]
  by_cases h5 : p = 5
  · rw [if_pos h5]; decide
  rw [if_neg h5]
  by_cases h4 : p = 4
  · rw [if_pos h4]; decide
  rw [if_neg h4]
  by_cases h3 : p = 3
  · rw [if_pos h3]; decide
  rw [if_neg h3]
  by_cases h2 : p = 2
  · rw [if_pos h2]; decide
  rw [if_neg h2]
  by_cases h1 : p = 1
  · rw [if_pos h1]; decide
  rw [if_neg h1]
  by_cases h0 : p = 0
  · rw [if_pos h0]; decide
  rw [if_neg h0]
  decide
def rTellL (p : Int) : List UInt8 := if p = 18 then [] else if p = 17 then [72] else if p = 16 then [118] else if p = 15 then [78, 102, 117] else if p = 14 then [69, 101, 118] else if p = 13 then [65] else if p = 12 then [] else if p = 11 then [] else if p = 10 then [] else if p = 9 then [72, 65] else if p = 8 then [72, 65] else if p = 7 then [72, 65] else if p = 6 then [78, 118, 65] else if p = 5 then [116, 101, 65] else if p = 4 then [116] else if p = 3 then [72, 65] else if p = 2 then [65] else if p = 1 then [65] else if p = 0 then [] else []
theorem rTellL_any (p : Nat) (hp : p < 19) (w : World) : Calls Try.prog 87 #[.int .i64 p] w fun e w' => e = .returned (.string (str (rTellL p))) ∧ Below w.heap.size w w' := by
  have h : p = 0 ∨ p = 1 ∨ p = 2 ∨ p = 3 ∨ p = 4 ∨ p = 5 ∨ p = 6 ∨ p = 7 ∨ p = 8 ∨ p = 9 ∨ p = 10 ∨ p = 11 ∨ p = 12 ∨ p = 13 ∨ p = 14 ∨ p = 15 ∨ p = 16 ∨ p = 17 ∨ p = 18 := by omega
  have cell : (w.alloc (.cells #[.string ⟨#[]⟩, .string ⟨#[65]⟩, .string ⟨#[65]⟩, .string ⟨#[72, 65]⟩, .string ⟨#[116]⟩, .string ⟨#[116, 101, 65]⟩, .string ⟨#[78, 118, 65]⟩, .string ⟨#[72, 65]⟩, .string ⟨#[72, 65]⟩, .string ⟨#[72, 65]⟩, .string ⟨#[]⟩, .string ⟨#[]⟩, .string ⟨#[]⟩, .string ⟨#[65]⟩, .string ⟨#[69, 101, 118]⟩, .string ⟨#[78, 102, 117]⟩, .string ⟨#[118]⟩, .string ⟨#[72]⟩, .string ⟨#[]⟩] 9)).cell? ⟨w.heap.size, p, none⟩ = some (.string (str (rTellL p))) := by
    rw [cell_of_row _ _ _ _ _ _ (heap_alloc_last w _)]
    rcases h with rfl | rfl | rfl | rfl | rfl | rfl | rfl | rfl | rfl | rfl | rfl | rfl | rfl | rfl | rfl | rfl | rfl | rfl | rfl <;> rfl
  have hp0 : (p : Int) < 19 := by omega
  clear h
  generalize str (rTellL p) = S at *
  go_enter Try.func87, Try.ntmps87
  go_wp2
  go_ret
  exact ⟨rfl, extAl w _⟩
theorem rTellL_len (p : Int) : (rTellL p).length ≤ 4 := by
  unfold rTellL
  by_cases h18 : p = 18
  · rw [if_pos h18]; decide
  rw [if_neg h18]
  by_cases h17 : p = 17
  · rw [if_pos h17]; decide
  rw [if_neg h17]
  by_cases h16 : p = 16
  · rw [if_pos h16]; decide
  rw [if_neg h16]
  by_cases h15 : p = 15
  · rw [if_pos h15]; decide
  rw [if_neg h15]
  by_cases h14 : p = 14
  · rw [if_pos h14]; decide
  rw [if_neg h14]
  by_cases h13 : p = 13
  · rw [if_pos h13]; decide
  rw [if_neg h13]
  by_cases h12 : p = 12
  · rw [if_pos h12]; decide
  rw [if_neg h12]
  by_cases h11 : p = 11
  · rw [if_pos h11]; decide
  rw [if_neg h11]
  by_cases h10 : p = 10
  · rw [if_pos h10]; decide
  rw [if_neg h10]
  by_cases h9 : p = 9
  · rw [if_pos h9]; decide
  rw [if_neg h9]
  by_cases h8 : p = 8
  · rw [if_pos h8]; decide
  rw [if_neg h8]
  by_cases h7 : p = 7
  · rw [if_pos h7]; decide
  rw [if_neg h7]
  by_cases h6 : p = 6
  · rw [if_pos h6]; decide
  rw [if_neg h6]
  by_cases h5 : p = 5
  · rw [if_pos h5]; decide
  rw [if_neg h5]
  by_cases h4 : p = 4
  · rw [if_pos h4]; decide
  rw [if_neg h4]
  by_cases h3 : p = 3
  · rw [if_pos h3]; decide
  rw [if_neg h3]
  by_cases h2 : p = 2
  · rw [if_pos h2]; decide
  rw [if_neg h2]
  by_cases h1 : p = 1
  · rw [if_pos h1]; decide
  rw [if_neg h1]
  by_cases h0 : p = 0
  · rw [if_pos h0]; decide
  rw [if_neg h0]
  decide
end Go.Proofs.Yteahlnoonmfjhaa
