/- Walks of readers: Word of both. -/
import Derived.Test.YteahlnoonmfjhaaRdD
set_option linter.unusedVariables false
set_option maxRecDepth 100000
namespace Go.Proofs.Yteahlnoonmfjhaa
open Go.RowKit

def rdW : St → Int × St
  | none => (0, none)
  | some l => if 4 ≤ l.length then (beV (l.take 4), some (l.drop 4)) else (0, none)

theorem RS.some_of {w : World} {A : Option Addr} {n c : Nat} {l : List UInt8} (h : RS w (.slice A n c) l) (hl : l ≠ []) : ∃ b off, A = some ⟨b, off, none⟩ ∧ n = l.length ∧ b < w.heap.size ∧ n ≤ c ∧ ∀ j, j < l.length → w.cell? ⟨b, off + j, none⟩ = (bvs l)[j]? := by
  rcases h with ⟨_, h⟩ | ⟨b, off, c', h, hb, hc, hj⟩
  · exact absurd h hl
  · simp only [Value.slice.injEq] at h
    obtain ⟨rfl, rfl, rfl⟩ := h
    exact ⟨b, off, rfl, rfl, hb, hc, hj⟩

theorem four {l : List UInt8} (h : l.length = 4) : ∃ p q r t, l = [p, q, r, t] := by
  match l, h with
  | [p, q, r, t], _ => exact ⟨p, q, r, t, rfl⟩

theorem word_any (g : Nat) (s : St) (w : World) (h : Rd 192 w g s) :
    Calls Try.prog 94 #[.pointer (some ⟨g, 0, none⟩)] w fun e w' => e = .returned (.int .u32 (rdW s).1) ∧ Rd 192 w' g (rdW s).2 ∧ But g w w' := by
  by_cases hs : s = none ∨ s.l.length < 4
  · have hr : rdW s = (0, none) := by
      cases s with
      | none => rfl
      | some l =>
        have h4 : ¬ 4 ≤ l.length := by rcases hs with hs | hs; cases hs; simpa [St.l] using hs
        simp [rdW, h4]
    rw [hr]
    go_enter Try.func94, Try.ntmps94
    go_wp2_with (go_at_call 135; refine (take_no g s 4 _ h (by rcases hs with hs | hs; exact .inl hs; exact .inr (.inr (by exact_mod_cast hs)))).mono ?_; rintro e w1 ⟨rfl, r1, b1⟩)
    go_ret
    exact ⟨rfl, r1, b1⟩
  · obtain ⟨l, rfl⟩ : ∃ l, s = some l := by cases s with | none => exact absurd (.inl rfl) hs | some l => exact ⟨l, rfl⟩
    have h4 : 4 ≤ l.length := Nat.le_of_not_lt fun h => hs (.inr h)
    obtain ⟨p, q, r, t, hl⟩ := four (l := l.take 4) (by simp; omega)
    have hr : rdW (some l) = (beV [p, q, r, t], some (l.drop 4)) := by simp [rdW, h4, hl]
    rw [hr]
    go_enter Try.func94, Try.ntmps94
    go_wp2_with fail
    refine (take_ok g l 4 _ h h4).mono ?_
    rintro e w1 ⟨A, rfl, hc, r1, b1⟩
    rw [hl] at hc
    obtain ⟨b, off, rfl, -, hb, -, hj⟩ := hc.some_of (by simp)
    have ha := fun w => run_arrayAt (P := Try.prog) (w := w) 163 5 4 (some ⟨b, off, none⟩) 4 4 Try.underlying163 (Nat.le_refl _)
    have d0 : w1.cell? ⟨b, off, none⟩ = some (.int .u8 p.toNat) := hj 0 (by simp)
    have d1 : w1.cell? ⟨b, off + 1, none⟩ = some (.int .u8 q.toNat) := hj 1 (by simp)
    have d2 : w1.cell? ⟨b, off + 2, none⟩ = some (.int .u8 r.toNat) := hj 2 (by simp)
    have d3 : w1.cell? ⟨b, off + 3, none⟩ = some (.int .u8 t.toNat) := hj 3 (by simp)
    clear hj
    have pb := p.toNat_lt
    have qb := q.toNat_lt
    have rb := r.toNat_lt
    have tb := t.toNat_lt
    have i0 : ∀ w, (Instr.index 163 (.agg #[.int .u8 (p.toNat : Int), .int .u8 (q.toNat : Int), .int .u8 (r.toNat : Int), .int .u8 (t.toNat : Int)]) (.int .i64 0)).run Try.prog w = .ok (.int .u8 (p.toNat : Int)) w := fun _ => by kernel_rfl
    have i1 : ∀ w, (Instr.index 163 (.agg #[.int .u8 (p.toNat : Int), .int .u8 (q.toNat : Int), .int .u8 (r.toNat : Int), .int .u8 (t.toNat : Int)]) (.int .i64 1)).run Try.prog w = .ok (.int .u8 (q.toNat : Int)) w := fun _ => by kernel_rfl
    have i2 : ∀ w, (Instr.index 163 (.agg #[.int .u8 (p.toNat : Int), .int .u8 (q.toNat : Int), .int .u8 (r.toNat : Int), .int .u8 (t.toNat : Int)]) (.int .i64 2)).run Try.prog w = .ok (.int .u8 (r.toNat : Int)) w := fun _ => by kernel_rfl
    have i3 : ∀ w, (Instr.index 163 (.agg #[.int .u8 (p.toNat : Int), .int .u8 (q.toNat : Int), .int .u8 (r.toNat : Int), .int .u8 (t.toNat : Int)]) (.int .i64 3)).run Try.prog w = .ok (.int .u8 (t.toNat : Int)) w := fun _ => by kernel_rfl
    have o1 := or_u32 0 p.toNat (by omega) (by omega) (by omega) (by omega)
    have o2 := or_u32 p.toNat q.toNat (by omega) (by omega) (by omega) (by omega)
    have o3 := or_u32 (p.toNat * 256 + q.toNat) r.toNat (by omega) (by omega) (by omega) (by omega)
    have o4 := or_u32 ((p.toNat * 256 + q.toNat) * 256 + r.toNat) t.toNat (by omega) (by omega) (by omega) (by omega)
    simp only [Int.zero_mul, Int.zero_add] at o1
    go_wp2_with fail
    refine wp_loop_rounds 5 ?_
    iterate 5
      rw [rounds_succ]
      go_wp2_with fail
    go_ret
    exact ⟨by simp [beV], r1.ext (ext_alloc _ _), b1.trans (But.of (ext_alloc _ _))⟩
end Go.Proofs.Yteahlnoonmfjhaa
