/- Walks of readers of jettyref01: Word, Long, Int, Flag, Count, Done. -/
import Derived.Test.YteahlnoonmfjhaaRdJ
set_option linter.unusedVariables false
set_option maxRecDepth 100000
namespace Go.Proofs.Yteahlnoonmfjhaa
open Go.RowKit

theorem rword_any (g : Nat) (s : St) (w : World) (h : Rd 196 w g s) :
    Calls Try.prog 90 #[.pointer (some ⟨g, 0, none⟩)] w fun e w' => e = .returned (.int .u32 (rdW s).1) ∧ Rd 196 w' g (rdW s).2 ∧ But g w w' := by
  have h0 := h
  obtain ⟨A, c, hg, hr⟩ := h
  obtain ⟨c0, c1, f0, f1, hz⟩ := blk2 hg
  by_cases hs : s.l.length < 4
  · have hr : rdW s = (0, none) := by
      cases s with
      | none => rfl
      | some l =>
        have h4 : ¬ 4 ≤ l.length := by simpa [St.l] using hs
        simp [rdW, h4]
    rw [hr]
    clear hg
    go_enter Try.func90, Try.ntmps90
    go_wp2_with (go_at_call 134; refine (fail_any _ _ _ h0).mono ?_; rintro e w1 ⟨rfl, r1, b1⟩)
    go_ret
    exact ⟨rfl, r1, b1⟩
  · obtain ⟨l, rfl⟩ : ∃ l, s = some l := by cases s with | none => simp [St.l] at hs | some l => exact ⟨l, rfl⟩
    have hl : St.l (some l) = l := rfl
    rw [hl] at c0 hr hs hg
    simp only [Option.isNone_some] at c1 hg
    obtain ⟨p, q, r, t, hl4⟩ := four (l := l.take 4) (by simp; omega)
    have hrd : rdW (some l) = (beV [p, q, r, t], some (l.drop 4)) := by simp [rdW, show 4 ≤ l.length by omega, hl4]
    rw [hrd]
    obtain ⟨b, off, rfl, -, hb, hcc, hj⟩ := hr.some_of (by intro h; rw [h] at hs; simp at hs)
    have hjj : ∀ j (h : j < 4), w.cell? ⟨b, off + j, none⟩ = (bvs [p, q, r, t])[j]? := fun j h => by
      rw [hj j (by omega), ← hl4]
      simp only [bvs, List.getElem?_map, List.getElem?_take, if_pos h]
    have d0 : w.cell? ⟨b, off, none⟩ = some (.int .u8 p.toNat) := hjj 0 (by simp)
    have d1 : w.cell? ⟨b, off + 1, none⟩ = some (.int .u8 q.toNat) := hjj 1 (by simp)
    have d2 : w.cell? ⟨b, off + 2, none⟩ = some (.int .u8 r.toNat) := hjj 2 (by simp)
    have d3 : w.cell? ⟨b, off + 3, none⟩ = some (.int .u8 t.toNat) := hjj 3 (by simp)
    obtain ⟨C1, C2⟩ := h0.cut hg hb hcc (n := 4) (by omega) hj
    have H1 := Lib.hid C1
    have H2 := Lib.hid C2
    clear hj hjj C1 C2 hg hl4
    have pb := p.toNat_lt
    have qb := q.toNat_lt
    have rb := r.toNat_lt
    have tb := t.toNat_lt
    by_cases hcn : c = 4
    · have S := Lib.hid (H1.out hcn)
      clear H1 H2
      go_enter Try.func90, Try.ntmps90
      go_wp2_with fail
      refine wp_loop_rounds 5 ?_
      iterate 5
        rw [rounds_succ]
        go_wp2_with fail
      go_ret
      exact ⟨by simp [beV], S.out.1, S.out.2⟩
    · have S := Lib.hid (H2.out hcn)
      clear H1 H2
      go_enter Try.func90, Try.ntmps90
      go_wp2_with fail
      refine wp_loop_rounds 5 ?_
      iterate 5
        rw [rounds_succ]
        go_wp2_with fail
      go_ret
      exact ⟨by simp [beV], S.out.1, S.out.2⟩
end Go.Proofs.Yteahlnoonmfjhaa
