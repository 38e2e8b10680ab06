/- Walks of readers: OK, Left, Done, Long, Int, Flag, Count of package xdr. -/
import Derived.Test.YtobcfocbglkicaaRdE
set_option linter.unusedVariables false
namespace Go.Proofs.Ytobcfocbglkicaa
open Go.RowKit

theorem rdW_bd (s : St) : 0 ≤ (rdW s).1 ∧ (rdW s).1 ≤ 4294967295 := by
  cases s with
  | none => simp [rdW]
  | some l =>
    by_cases h : 4 ≤ l.length
    · have := beV_lt (l := l.take 4) (k := 4) (by simp; omega)
      simp only [rdW, if_pos h]
      omega
    · simp [rdW, h]

theorem ok_any (g : Nat) (s : St) (w : World) (h : Rd 129 w g s) :
    Calls Try.prog 87 #[.pointer (some ⟨g, 0, none⟩)] w fun e w' => e = .returned (.bool s.isSome) ∧ w' = w := by
  obtain ⟨A, c, hg, hr⟩ := h
  obtain ⟨c0, c1, f0, f1, hz⟩ := blk2 hg
  clear hg
  cases s with
  | none =>
    simp only [Option.isNone_none] at c1
    go_enter Try.func87, Try.ntmps87
    go_wp2
    go_ret
    exact ⟨rfl, rfl⟩
  | some l =>
    simp only [Option.isNone_some] at c1
    go_enter Try.func87, Try.ntmps87
    go_wp2
    go_ret
    exact ⟨rfl, rfl⟩

/-- Was all read? -/
def doneB (s : St) : Bool := s == some []
end Go.Proofs.Ytobcfocbglkicaa
