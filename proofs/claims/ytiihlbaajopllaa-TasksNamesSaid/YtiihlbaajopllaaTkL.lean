/- The law of tasks: the same numbers, who can go on. -/
import Derived.Test.YtiihlbaajopllaaTkK
set_option linter.unusedVariables false
set_option maxRecDepth 100000
namespace Go.Proofs.Ytiihlbaajopllaa
open Go.RowKit

set_option maxHeartbeats 2000000 in
theorem ints_t {va vb : Value} (a : List Int) (w : World) (ha : RIn w va a) (hb : RIn w vb a) (hl : a.length ≤ 1000000) : Calls Try.prog 42 #[va, vb] w fun e w' => e = .returned (.bool true) ∧ Below w.heap.size w w' := by
  obtain ⟨A, c, rfl⟩ := ha.form
  obtain ⟨B, d, rfl⟩ := hb.form
  have HA := Lib.hid ha
  have HB := Lib.hid hb
  clear ha hb
  go_enter Try.func42, Try.ntmps42
  go_wp2
  go_loopg [5] a.length (fun gg s wr => ∃ k : Nat, k ≤ a.length ∧ a.length - k ≤ gg ∧ s = .int .i64 k ∧ Hid (Ext w wr))
  case atStart => exact ⟨0, Nat.zero_le _, by omega, rfl, Lib.hid (Ext.refl w)⟩
  case round =>
    obtain ⟨k, hk, hg, rfl, HW⟩ := hrel
    by_cases hlt : k < a.length
    · obtain ⟨ab, ao, rfl, hba, hca, -⟩ := HA.out.at (by omega)
      obtain ⟨bb, bo, rfl, hbb, hcb, -⟩ := HB.out.at (by omega)
      obtain ⟨n, hn⟩ : ∃ n, a[k]? = some n := ⟨_, List.getElem?_eq_getElem hlt⟩
      have x0 := RIn.num (HA.out.ext HW.out) hn
      have y0 := RIn.num (HB.out.ext HW.out) hn
      have z0 := Below.size HW.out
      clear hn
      go_wp2
      go_quiet (fail)
      go_wp2
      go_roundg (a.length - (k + 1))
      case measure => omega
      case rel => exact ⟨k + 1, by omega, by omega, by go_num, Lib.hid (below_drewN HW.out _)⟩
    · obtain rfl : k = a.length := by omega
      go_wp2
      go_ret
      exact ⟨rfl, HW.out⟩
def flat2 (l : List Tn) : List Int := l.flatMap fun x => [x.1, x.2]
theorem flat2_len (l : List Tn) : (flat2 l).length = l.length * 2 := by
  unfold flat2
  induction l with
  | nil => rfl
  | cons a l ih => rw [List.flatMap_cons, List.length_append, ih, List.length_cons]; simp; omega
theorem flat2_at : ∀ {l : List Tn} {k : Nat} {x : Tn}, l[k]? = some x → (flat2 l)[2 * k]? = some x.1 ∧ (flat2 l)[2 * k + 1]? = some x.2
  | [], k, x, h => by simp at h
  | a :: l, 0, x, h => by
    simp only [List.getElem?_cons_zero, Option.some.injEq] at h
    subst h
    exact ⟨rfl, rfl⟩
  | a :: l, k + 1, x, h => by
    simp only [List.getElem?_cons_succ] at h
    have ih := flat2_at h
    have e : flat2 (a :: l) = a.1 :: a.2 :: flat2 l := rfl
    rw [e, show 2 * (k + 1) = 2 * k + 1 + 1 by omega, show 2 * k + 1 + 1 + 1 = (2 * k + 1) + 1 + 1 by omega, List.getElem?_cons_succ, List.getElem?_cons_succ, List.getElem?_cons_succ, List.getElem?_cons_succ]
    exact ih
set_option maxHeartbeats 4000000 in
theorem canLaw_t {W w : World} {ds : List (Ob Zf)} {g : Nat} {T : TK} {vb : Value} (i : Nat) (h : OSt W ds w) (hi : ds[i]? = some (tkOb g T)) (l : List Tn) (hl : canT T = l) (hb : RIn w vb (flat2 l)) (hu : ∀ x ∈ l, x.2 = 1 ∨ x.2 = 2 ∨ x.2 = 3) (hll : l.length ≤ 1000) :
    Calls Try.prog 44 #[.pointer (some ⟨g, 0, none⟩), vb] w fun e w' => e = .returned (.bool true) ∧ Ext w w' := by
  have K := Lib.hid (tcanO i h hi l hl)
  obtain ⟨B, d, rfl⟩ := hb.form
  rw [flat2_len] at hb ⊢
  have HB := Lib.hid hb
  have HU := Lib.hid hu
  clear h hi hl hb hu
  go_enter Try.func44, Try.ntmps44
  go_wp2_with fail
  refine K.out.mono ?_
  rintro e w1 ⟨v, rfl, ho, hx⟩
  obtain ⟨A, c, rfl⟩ := ho.form
  have HA := Lib.hid (OwnR.rr ho (by omega))
  have HX := Lib.hid hx
  have HB1 := Lib.hid (HB.out.ext hx)
  clear ho hx K HB
  go_wp2
  have hq : (2 * (l.length : Int) != (l.length : Int) * 2) = false := by simp; omega
  rw [hq]
  clear hq
  go_loopg [6] l.length (fun gg s wr => ∃ k : Nat, k ≤ l.length ∧ l.length - k ≤ gg ∧ s = .int .i64 k ∧ Hid (Ext w1 wr))
  case atStart => exact ⟨0, Nat.zero_le _, by omega, rfl, Lib.hid (Ext.refl _)⟩
  case round =>
    obtain ⟨k, hk, hg, rfl, HW⟩ := hrel
    by_cases hlt : k < l.length
    · obtain ⟨x, hx⟩ : ∃ x, l[k]? = some x := ⟨_, List.getElem?_eq_getElem hlt⟩
      obtain ⟨b, off, rfl, hba, hca, -⟩ := HA.out.at (by omega)
      have hxu := HU.out x (List.mem_of_getElem? hx)
      have x0 := RR.cellAt (HA.out.ext HW.out) tnC_length hx (i := 0) (v := .int .i64 x.1) rfl
      have x1 := RR.cellAt (HA.out.ext HW.out) tnC_length hx (i := 1) (v := .int .u8 x.2) rfl
      have hb2 := HB1.out.ext HW.out
      rw [← flat2_len] at hb2
      obtain ⟨b2, off2, hA, hbb, hcb, -⟩ := hb2.at (by rw [flat2_len]; omega)
      subst hA
      rw [flat2_len] at hcb
      have y0 := RIn.num hb2 (flat2_at hx).1
      have y1 := RIn.num hb2 (flat2_at hx).2
      have z0 := Below.size HW.out
      clear hx hb2
      simp only [Nat.add_zero] at x0
      have n0 : (2 * (k : Int)).toNat = 2 * k := by omega
      have n1 : (2 * (k : Int) + 1).toNat = 2 * k + 1 := by omega
      rw [← Nat.add_assoc] at x1
      go_wp2
      go_quiet (fail)
      go_wp2
      go_roundg (l.length - (k + 1))
      case measure => omega
      case rel => exact ⟨k + 1, by omega, by omega, by go_num, Lib.hid (below_drewN HW.out _)⟩
    · obtain rfl : k = l.length := by omega
      go_wp2
      go_ret
      exact ⟨rfl, Ext.trans HX.out HW.out⟩
end Go.Proofs.Ytiihlbaajopllaa
