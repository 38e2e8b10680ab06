/- Records: Same; told rows. -/
import Derived.Test.YtbbkailmlaffjaaRcK
import Derived.Test.YtbbkailmlaffjaaLiftB
set_option linter.unusedVariables false
set_option maxRecDepth 100000
namespace Go.Proofs.Ytbbkailmlaffjaa
open Go.RowKit

theorem RR.str {w : World} {b off n c : Nat} {l : List (List UInt8)} (h : RR w 1 (.slice (some ⟨b, off, none⟩) n c) n (svs l)) {k : Nat} {x : List UInt8} (hx : l[k]? = some x) : w.cell? ⟨b, off + k, none⟩ = some (.string (str x)) := by
  have hk := (List.getElem?_eq_some_iff.1 hx).1
  have h0 := h.1
  rw [svs_length] at h0
  obtain ⟨b', off', hA, _, _, hj⟩ := h.at (by omega)
  simp only [Option.some.injEq, Addr.mk.injEq, and_true] at hA
  obtain ⟨rfl, rfl⟩ := hA
  rw [hj k (by rw [svs_length]; exact hk)]
  have h1 := (List.getElem?_eq_some_iff.1 hx).2
  simp [svs, h1]
set_option maxHeartbeats 1000000 in
theorem Same_t {va vb : Value} (a : List (List UInt8)) (w : World) (ha : RR w 1 va a.length (svs a)) (hb : RR w 1 vb a.length (svs a)) (hal : a.length ≤ 1000000) :
    Calls Try.prog 11 #[va, vb] w fun e w' => e = .returned (.bool true) ∧ Ext w w' := by
  obtain ⟨A, ca, rfl⟩ := ha.form
  obtain ⟨B, cb, rfl⟩ := hb.form
  have HA := Lib.hid ha
  have HB := Lib.hid hb
  clear ha hb
  go_enter Try.func11, Try.ntmps11
  go_wp2
  go_loopg [5] a.length (fun gg s wr => ∃ k : Nat, k ≤ a.length ∧ a.length - k ≤ gg ∧ s = .int .i64 k ∧ Hid (Ext w wr))
  case atStart => exact ⟨0, Nat.zero_le _, by omega, rfl, Lib.hid (Ext.refl w)⟩
  case round =>
    obtain ⟨k, hk, hg, rfl, HW⟩ := hrel
    by_cases hlt : k < a.length
    · obtain ⟨ab, ao, hA, hba, hca, -⟩ := HA.out.at (by omega)
      subst hA
      obtain ⟨bb', bo, rfl, hbb, hcb, -⟩ := HB.out.at (by omega)
      obtain ⟨x, hx⟩ : ∃ x, a[k]? = some x := ⟨_, List.getElem?_eq_getElem hlt⟩
      have x0 := RR.str (HA.out.ext HW.out) hx
      have y0 := RR.str (HB.out.ext HW.out) hx
      have ba : ab < wr.heap.size := Nat.lt_of_lt_of_le hba (Below.size HW.out)
      have bb : bb' < wr.heap.size := Nat.lt_of_lt_of_le hbb (Below.size HW.out)
      clear hx
      have e0 := fun (ψ : World → Prop) (e : ExtP wr.heap.size wr ψ) => e.cell x0 ba
      have e1 := fun (ψ : World → Prop) (e : ExtP wr.heap.size wr ψ) => e.cell y0 bb
      clear x0 y0
      go_wp2
      refine wp_region_pieces 9  [(true, [0, 1, 2, 3, 4, 5, 6, 7, 8])] (by kernel_rfl) (by kernel_rfl) ?_; simp only [pick, List.map_cons, List.map_nil, List.flatMap_cons, List.flatMap_nil, Option.toList_some, List.singleton_append, List.drop_succ_cons, List.drop_zero, List.getElem?_cons_zero, List.getElem?_cons_succ]
      refine ⟨by kernel_rfl, ?_⟩; apply Exists.intro; refine ⟨fun ψ hψ hne => (by (repeat (go_big_quiet_step (( fail )))); exact wpQuiet_nil rfl), ?_⟩
      intro w1 h1
      clear e0 e1
      go_wp2
      go_roundg (a.length - (k + 1))
      case measure => omega
      case rel => exact ⟨k + 1, by omega, by omega, by go_num, Lib.hid (Ext.trans HW.out h1)⟩
    · obtain rfl : k = a.length := by omega
      go_wp2
      go_ret
      exact ⟨rfl, HW.out⟩
end Go.Proofs.Ytbbkailmlaffjaa
