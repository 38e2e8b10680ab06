/- Walks of readers: OK, Left, Done, Long, Int, Flag, Count of package xdr. -/
import Derived.Test.YteahlnoonmfjhaaRdE
set_option linter.unusedVariables false
set_option maxRecDepth 100000
namespace Go.Proofs.Yteahlnoonmfjhaa
open Go.RowKit

theorem rdW_bd (s : St) : 0 ≤ (rdW s).1 ∧ (rdW s).1 ≤ 4294967295 := by
  cases s with
  | none => simp [rdW]
  | some l =>
    by_cases h : 4 ≤ l.length
    · have := beV_lt (l := l.take 4) (k := 4) (by simp; omega)
      simp only [rdW, if_pos h]
      omega
    · simp [rdW, h]

theorem ok_any (g : Nat) (s : St) (w : World) (h : Rd 192 w g s) :
    Calls Try.prog 128 #[.pointer (some ⟨g, 0, none⟩)] w fun e w' => e = .returned (.bool s.isSome) ∧ w' = w := by
  obtain ⟨A, c, hg, hr⟩ := h
  obtain ⟨c0, c1, f0, f1, hz⟩ := blk2 hg
  clear hg
  cases s with
  | none =>
    simp only [Option.isNone_none] at c1
    go_enter Try.func128, Try.ntmps128
    go_wp2
    go_ret
    exact ⟨rfl, rfl⟩
  | some l =>
    simp only [Option.isNone_some] at c1
    go_enter Try.func128, Try.ntmps128
    go_wp2
    go_ret
    exact ⟨rfl, rfl⟩

/-- Was all read? -/
def doneB (s : St) : Bool := s == some []
theorem done_any (g : Nat) (s : St) (w : World) (h : Rd 192 w g s) :
    Calls Try.prog 75 #[.pointer (some ⟨g, 0, none⟩)] w fun e w' => e = .returned (.bool (doneB s)) ∧ w' = w := by
  have h0 := h
  obtain ⟨A, c, hg, hr⟩ := h
  obtain ⟨c0, c1, f0, f1, hz⟩ := blk2 hg
  clear hg
  cases s with
  | none =>
    simp only [Option.isNone_none] at c1
    go_enter Try.func75, Try.ntmps75
    go_wp2_with (go_at_call 128; refine (ok_any _ _ _ h0).mono ?_; rintro e w' ⟨rfl, rfl⟩)
    go_ret
    exact ⟨rfl, rfl⟩
  | some l =>
    simp only [Option.isNone_some] at c1
    cases l with
    | nil =>
      go_enter Try.func75, Try.ntmps75
      go_wp2_with (go_at_call 128; refine (ok_any _ _ _ h0).mono ?_; rintro e w' ⟨rfl, rfl⟩)
      go_ret
      exact ⟨rfl, rfl⟩
    | cons a l =>
      have hn : ∀ n : Nat, ((n : Int) + 1 == 0) = false := fun n => by rw [beq_eq_false_iff_ne]; omega
      have hl : St.l (some (a :: l)) = a :: l := rfl
      rw [hl] at c0
      go_enter Try.func75, Try.ntmps75
      go_wp2_with (go_at_call 128; refine (ok_any _ _ _ h0).mono ?_; rintro e w' ⟨rfl, rfl⟩)
      go_ret
      exact ⟨rfl, rfl⟩
end Go.Proofs.Yteahlnoonmfjhaa
