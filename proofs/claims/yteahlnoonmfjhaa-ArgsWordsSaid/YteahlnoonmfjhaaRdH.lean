/- Walks of readers: Flag, Count, Fixed, Text of package xdr. -/
import Derived.Test.YteahlnoonmfjhaaRdG
set_option linter.unusedVariables false
set_option maxRecDepth 100000
namespace Go.Proofs.Yteahlnoonmfjhaa
open Go.RowKit

def rdF (s : St) : Bool × St := if 1 < (rdW s).1 then (false, none) else ((rdW s).1 == 1, (rdW s).2)
theorem flag_any (g : Nat) (s : St) (w : World) (h : Rd 192 w g s) :
    Calls Try.prog 138 #[.pointer (some ⟨g, 0, none⟩)] w fun e w' => e = .returned (.bool (rdF s).1) ∧ Rd 192 w' g (rdF s).2 ∧ But g w w' := by
  by_cases h1 : 1 < (rdW s).1
  · have hr : rdF s = (false, none) := by simp [rdF, h1]
    rw [hr]
    go_enter Try.func138, Try.ntmps138
    go_wp2_with fail
    refine (word_any g s _ h).mono ?_
    rintro e w1 ⟨rfl, r1, k1⟩
    go_wp2_with (go_at_call 155; refine (spoil_any _ _ _ r1).mono ?_; rintro e w2 ⟨rfl, r2, k2⟩)
    go_ret
    exact ⟨rfl, r2, k1.trans k2⟩
  · have hr : rdF s = ((rdW s).1 == 1, (rdW s).2) := by simp [rdF, h1]
    rw [hr]
    go_enter Try.func138, Try.ntmps138
    go_wp2_with fail
    refine (word_any g s _ h).mono ?_
    rintro e w1 ⟨rfl, r1, k1⟩
    go_wp2_with fail
    go_ret
    exact ⟨rfl, r1, k1⟩

def rdC (s : St) (most : Int) : Int × St := if most < (rdW s).1 then (0, none) else rdW s
theorem rdC_bd (s : St) (m : Int) : 0 ≤ (rdC s m).1 ∧ (rdC s m).1 ≤ 4294967295 := by
  have := rdW_bd s
  unfold rdC
  split
  · simp
  · exact this
theorem count_any (g : Nat) (s : St) (m : Int) (w : World) (h : Rd 192 w g s) :
    Calls Try.prog 151 #[.pointer (some ⟨g, 0, none⟩), .int .i64 m] w fun e w' => e = .returned (.int .i64 (rdC s m).1) ∧ Rd 192 w' g (rdC s m).2 ∧ But g w w' := by
  have hb := rdW_bd s
  by_cases h1 : m < (rdW s).1
  · have hr : rdC s m = (0, none) := by simp [rdC, h1]
    rw [hr]
    go_enter Try.func151, Try.ntmps151
    go_wp2_with fail
    refine (word_any g s _ h).mono ?_
    rintro e w1 ⟨rfl, r1, k1⟩
    go_wp2_with (go_at_call 155; refine (spoil_any _ _ _ r1).mono ?_; rintro e w2 ⟨rfl, r2, k2⟩)
    go_ret
    exact ⟨rfl, r2, k1.trans k2⟩
  · have hr : rdC s m = rdW s := by simp [rdC, h1]
    rw [hr]
    go_enter Try.func151, Try.ntmps151
    go_wp2_with fail
    refine (word_any g s _ h).mono ?_
    rintro e w1 ⟨rfl, r1, k1⟩
    go_wp2_with fail
    go_ret
    exact ⟨rfl, r1, k1⟩
end Go.Proofs.Yteahlnoonmfjhaa
