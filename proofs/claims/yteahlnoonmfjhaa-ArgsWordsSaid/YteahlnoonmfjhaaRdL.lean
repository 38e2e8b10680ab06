/- Walks of readers of jettyref01: Long, Int, Flag, Count, Done. -/
import Derived.Test.YteahlnoonmfjhaaRdK
set_option linter.unusedVariables false
set_option maxRecDepth 100000
namespace Go.Proofs.Yteahlnoonmfjhaa
open Go.RowKit

theorem rlong_any (g : Nat) (s : St) (w : World) (h : Rd 196 w g s) :
    Calls Try.prog 79 #[.pointer (some ⟨g, 0, none⟩)] w fun e w' => e = .returned (.int .u64 (rdL s).1) ∧ Rd 196 w' g (rdL s).2 ∧ But g w w' := by
  have b1 := rdW_bd s
  have b2 := rdW_bd (rdW s).2
  cases hq : (rdW (rdW s).2).2 with
  | none =>
    have hr : rdL s = (0, none) := by simp [rdL, hq]
    rw [hr]
    go_enter Try.func79, Try.ntmps79
    go_wp2_with fail
    refine (rword_any g s _ h).mono ?_
    rintro e w1 ⟨rfl, r1, k1⟩
    go_wp2_with fail
    refine (rword_any g _ _ r1).mono ?_
    rintro e w2 ⟨rfl, r2, k2⟩
    rw [hq] at r2
    obtain ⟨A, c, hg, hrr⟩ := id r2
    obtain ⟨c0, c1, f0, f1, hz⟩ := blk2 hg
    simp only [Option.isNone_none] at c1
    clear hg
    go_wp2_with fail
    go_ret
    exact ⟨rfl, r2, k1.trans k2⟩
  | some l =>
    have hr : rdL s = ((rdW s).1 * 4294967296 + (rdW (rdW s).2).1, some l) := by simp [rdL, hq]
    rw [hr]
    go_enter Try.func79, Try.ntmps79
    go_wp2_with fail
    refine (rword_any g s _ h).mono ?_
    rintro e w1 ⟨rfl, r1, k1⟩
    go_wp2_with fail
    refine (rword_any g _ _ r1).mono ?_
    rintro e w2 ⟨rfl, r2, k2⟩
    rw [hq] at r2
    obtain ⟨A, c, hg, hrr⟩ := id r2
    obtain ⟨c0, c1, f0, f1, hz⟩ := blk2 hg
    simp only [Option.isNone_some] at c1
    clear hg
    go_wp2_with fail
    go_ret
    exact ⟨rfl, r2, k1.trans k2⟩

theorem rint_any (g : Nat) (s : St) (w : World) (h : Rd 196 w g s) :
    Calls Try.prog 80 #[.pointer (some ⟨g, 0, none⟩)] w fun e w' => e = .returned (.int .i64 (wrap64 (rdL s).1)) ∧ Rd 196 w' g (rdL s).2 ∧ But g w w' := by
  have b1 := rdL_bd s
  go_enter Try.func80, Try.ntmps80
  go_wp2_with fail
  refine (rlong_any g s _ h).mono ?_
  rintro e w1 ⟨rfl, r1, k1⟩
  go_wp2_with fail
  go_ret
  exact ⟨rfl, r1, k1⟩

theorem rflag_any (g : Nat) (s : St) (w : World) (h : Rd 196 w g s) :
    Calls Try.prog 92 #[.pointer (some ⟨g, 0, none⟩)] w fun e w' => e = .returned (.bool (rdF s).1) ∧ Rd 196 w' g (rdF s).2 ∧ But g w w' := by
  by_cases h1 : 1 < (rdW s).1
  · have hr : rdF s = (false, none) := by simp [rdF, h1]
    have h2 : ((rdW s).1 == 1) = false := by rw [beq_eq_false_iff_ne]; omega
    rw [hr]
    go_enter Try.func92, Try.ntmps92
    go_wp2_with fail
    refine (rword_any g s _ h).mono ?_
    rintro e w1 ⟨rfl, r1, k1⟩
    go_wp2_with (go_at_call 134; refine (fail_any _ _ _ r1).mono ?_; rintro e w2 ⟨rfl, r2, k2⟩)
    go_ret
    exact ⟨rfl, r2, k1.trans k2⟩
  · have hr : rdF s = ((rdW s).1 == 1, (rdW s).2) := by simp [rdF, h1]
    rw [hr]
    go_enter Try.func92, Try.ntmps92
    go_wp2_with fail
    refine (rword_any g s _ h).mono ?_
    rintro e w1 ⟨rfl, r1, k1⟩
    go_wp2_with fail
    go_ret
    exact ⟨rfl, r1, k1⟩

theorem rdC_none {s : St} {m : Int} (h : (rdC s m).2 = none) : rdC s m = (0, none) := by
  unfold rdC at *
  split
  · rfl
  · rename_i h1
    rw [if_neg h1] at h
    cases s with
    | none => rfl
    | some l =>
      simp only [rdW] at h ⊢
      split
      · rename_i h2; rw [if_pos h2] at h; simp at h
      · rfl

theorem rcount_any (g : Nat) (s : St) (m : Int) (w : World) (h : Rd 196 w g s) :
    Calls Try.prog 93 #[.pointer (some ⟨g, 0, none⟩), .int .i64 m] w fun e w' => e = .returned (.int .i64 (rdC s m).1) ∧ Rd 196 w' g (rdC s m).2 ∧ But g w w' := by
  have hb := rdW_bd s
  by_cases h1 : m < (rdW s).1
  · have hr : rdC s m = (0, none) := by simp [rdC, h1]
    rw [hr]
    go_enter Try.func93, Try.ntmps93
    go_wp2_with fail
    refine (rword_any g s _ h).mono ?_
    rintro e w1 ⟨rfl, r1, k1⟩
    go_wp2_with fail
    refine (fail_any _ _ _ r1).mono ?_
    rintro e w2 ⟨rfl, r2, k2⟩
    obtain ⟨A, c, hg, hrr⟩ := id r2
    obtain ⟨c0, c1, f0, f1, hz⟩ := blk2 hg
    simp only [Option.isNone_none] at c1
    clear hg
    go_wp2_with fail
    go_ret
    exact ⟨rfl, r2, k1.trans k2⟩
  · have hr : rdC s m = rdW s := by simp [rdC, h1]
    cases hq : (rdW s).2 with
    | none =>
      have hr2 := rdC_none (s := s) (m := m) (by rw [hr]; exact hq)
      rw [hr2]
      go_enter Try.func93, Try.ntmps93
      go_wp2_with fail
      refine (rword_any g s _ h).mono ?_
      rintro e w1 ⟨rfl, r1, k1⟩
      rw [hq] at r1
      obtain ⟨A, c, hg, hrr⟩ := id r1
      obtain ⟨c0, c1, f0, f1, hz⟩ := blk2 hg
      simp only [Option.isNone_none] at c1
      clear hg
      go_wp2_with fail
      go_ret
      exact ⟨rfl, r1, k1⟩
    | some l =>
      rw [hr, hq]
      go_enter Try.func93, Try.ntmps93
      go_wp2_with fail
      refine (rword_any g s _ h).mono ?_
      rintro e w1 ⟨rfl, r1, k1⟩
      rw [hq] at r1
      obtain ⟨A, c, hg, hrr⟩ := id r1
      obtain ⟨c0, c1, f0, f1, hz⟩ := blk2 hg
      simp only [Option.isNone_some] at c1
      clear hg hq
      go_wp2_with fail
      go_ret
      exact ⟨rfl, r1, k1⟩

theorem rdone_any (g : Nat) (s : St) (w : World) (h : Rd 196 w g s) :
    Calls Try.prog 81 #[.pointer (some ⟨g, 0, none⟩)] w fun e w' => e = .returned (.bool (doneB s)) ∧ w' = w := by
  obtain ⟨A, c, hg, hr⟩ := h
  obtain ⟨c0, c1, f0, f1, hz⟩ := blk2 hg
  clear hg
  cases s with
  | none =>
    simp only [Option.isNone_none] at c1
    go_enter Try.func81, Try.ntmps81
    go_wp2
    go_ret
    exact ⟨rfl, rfl⟩
  | some l =>
    simp only [Option.isNone_some] at c1
    cases l with
    | nil =>
      go_enter Try.func81, Try.ntmps81
      go_wp2
      go_ret
      exact ⟨rfl, rfl⟩
    | cons a l =>
      have hn : ∀ n : Nat, ((n : Int) + 1 == 0) = false := fun n => by rw [beq_eq_false_iff_ne]; omega
      have hl : St.l (some (a :: l)) = a :: l := rfl
      rw [hl] at c0
      go_enter Try.func81, Try.ntmps81
      go_wp2
      go_ret
      exact ⟨rfl, rfl⟩
end Go.Proofs.Yteahlnoonmfjhaa
