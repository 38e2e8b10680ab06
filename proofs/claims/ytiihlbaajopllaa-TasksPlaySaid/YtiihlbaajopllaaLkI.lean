/- Walks of locks: wrong. -/
import Derived.Test.YtiihlbaajopllaaLkH
set_option linter.unusedVariables false
set_option maxRecDepth 100000
namespace Go.Proofs.Ytiihlbaajopllaa
open Go.RowKit

theorem wrong1_any {g : Nat} {n : Int} (x : Wn) (W : World) (hg : g < W.heap.size) (hc : W.cell? ⟨g, 0, none⟩ = some (.int .i64 n)) :
    Calls Try.prog 74 #[wnV x, .pointer (some ⟨g, 0, none⟩)] W fun e w' => e = .returned (.bool (decide (x.1 = n))) ∧ Below W.heap.size W w' := by
  have c1 := (extAl W (.cells #[.int .i64 x.1, .bool x.2] 52)).cells1 hg hc
  by_cases h : x.1 = n
  · rw [decide_eq_true h]
    subst h
    go_enter Try.func74, Try.ntmps74
    go_wp2
    go_ret
    exact ⟨rfl, extAl _ _⟩
  · rw [decide_eq_false h]
    have hb : (x.1 == n) = false := by rw [beq_eq_false_iff_ne]; exact h
    clear h
    go_enter Try.func74, Try.ntmps74
    go_wp2
    go_ret
    exact ⟨rfl, extAl _ _⟩
theorem RWn.pre {w : World} {b off c : Nat} {l : List Wn} (h : RWn w (.slice (some ⟨b, off, none⟩) l.length c) l) {k : Nat} (hk : k < l.length) : RWn w (.slice (some ⟨b, off, none⟩) k c) (l.take k) := by
  have hl : (l.take k).length = k := by simp; omega
  obtain ⟨b', off', he, hb, hc, hj⟩ := h.at (by omega)
  simp only [Option.some.injEq, Addr.mk.injEq, and_true] at he
  obtain ⟨rfl, rfl⟩ := he
  have e : wncs l = wncs (l.take k) ++ wncs (l.drop k) := by
    unfold wncs
    rw [← List.flatMap_append, List.take_append_drop]
  refine ⟨wncs_length _, .inr ⟨b, off, c, by rw [hl], hb, by omega, fun j hjl => ?_⟩⟩
  have hj2 := hj j (by rw [e, List.length_append]; omega)
  rw [hj2]
  congr 1
  simp only [e]
  exact List.getElem_append_left hjl
theorem wrong_far {l : List Wn} {i : Nat} (hi : i < l.length) (h : badAt l i = true) : wrongL l = true := by
  unfold wrongL
  rw [Bool.or_eq_true]
  exact .inr (List.any_eq_true.2 ⟨i, List.mem_range.2 hi, h⟩)
set_option maxHeartbeats 1000000 in
theorem wrong_any {v : Value} {l : List Wn} (w : World) (h : RWn w v l) (hll : l.length ≤ 1000000) :
    Calls Try.prog 50 #[v] w fun e w' => e = .returned (.bool (wrongL l)) ∧ Below w.heap.size w w' := by
  obtain ⟨A, c, rfl⟩ := h.form
  by_cases h4 : 4 < l.length
  · have e : wrongL l = true := by unfold wrongL; rw [decide_eq_true h4]; rfl
    rw [e]
    clear e h
    go_enter Try.func50, Try.ntmps50
    go_wp2
    go_ret
    exact ⟨rfl, Below.refl _ _⟩
  have H := Lib.hid h
  clear h
  have hle : (l.length : Int) ≤ 4 := by omega
  go_enter Try.func50, Try.ntmps50
  go_wp2
  go_loopg [11] l.length (fun gg s wr => ∃ k : Nat, k ≤ l.length ∧ l.length - k ≤ gg ∧ s = .int .i64 k ∧ Hid (Ext w wr) ∧ Hid (∀ j, j < k → badAt l j = false))
  case atStart => exact ⟨0, Nat.zero_le _, by omega, rfl, Lib.hid (Ext.refl w), Lib.hid fun j hj => absurd hj (Nat.not_lt_zero _)⟩
  case round =>
    obtain ⟨k, hk, hg, rfl, HW, HA⟩ := hrel
    by_cases hlt : k < l.length
    · obtain ⟨b, off, rfl, hb, hc, -⟩ := H.out.at (by omega)
      obtain ⟨x, hx⟩ : ∃ x, l[k]? = some x := ⟨_, List.getElem?_eq_getElem hlt⟩
      obtain ⟨h0, h1⟩ := RWn.want (H.out.ext HW.out) hx
      have hX := extAl wr (.cells #[.int .i64 x.1, .bool x.2] 52)
      have hgb := heap_alloc_last wr (.cells #[.int .i64 x.1, .bool x.2] 52)
      have hgl : wr.heap.size < (wr.alloc (.cells #[.int .i64 x.1, .bool x.2] 52)).heap.size := by simp
      have b0 : (wr.alloc (.cells #[.int .i64 x.1, .bool x.2] 52)).cell? ⟨wr.heap.size, 0, none⟩ = some (.int .i64 x.1) := by rw [cell_of_row _ _ _ _ _ _ hgb]; rfl
      have K := Lib.hid (ContainsFunc_fn (lb := #[.pointer (some ⟨wr.heap.size, 0, none⟩)]) (p := fun y => decide (y.1 = x.1)) (enters_of Try.func74 (by kernel_rfl) rfl) _
        (fun W y hW => wrong1_any y W (Nat.lt_of_lt_of_le hgl hW.size) (hW.cells1 hgl b0)) (RWn.pre ((H.out.ext HW.out).ext hX) hlt) (by simp; omega))
      have hbad : badAt l k = (decide (x.1 < 1) || (l.take k).any fun y => decide (y.1 = x.1)) := by unfold badAt; rw [hx]
      have HX := Lib.hid hX
      clear hX hgb b0 hx hgl
      by_cases h1' : x.1 < 1
      · have e := Lib.hid (wrong_far hlt (by rw [hbad, decide_eq_true h1']; rfl))
        clear hbad K
        go_wp2
        go_ret
        exact ⟨by rw [e.out]; rfl, Ext.trans HW.out HX.out⟩
      · rw [decide_eq_false h1', Bool.false_or] at hbad
        rw [← hbad] at K
        cases hq : badAt l k with
        | true =>
          have e := Lib.hid (wrong_far hlt hq)
          rw [hq] at K
          clear hbad hq
          go_wp2_with (go_at_call 75; refine K.out.mono ?_; rintro e w2 ⟨rfl, hb2⟩)
          go_ret
          exact ⟨by rw [e.out]; rfl, Ext.trans HW.out (Ext.trans HX.out hb2)⟩
        | false =>
          rw [hq] at K
          have HQ := Lib.hid hq
          clear hbad hq
          go_wp2_with (go_at_call 75; refine K.out.mono ?_; rintro e w2 ⟨rfl, hb2⟩)
          go_roundg (l.length - (k + 1))
          case measure => omega
          case rel =>
            refine ⟨k + 1, by omega, by omega, by go_num, Lib.hid (Ext.trans HW.out (Ext.trans HX.out hb2)), Lib.hid fun j hj => ?_⟩
            by_cases e : j = k
            · subst e; exact HQ.out
            · exact HA.out j (by omega)
    · obtain rfl : k = l.length := by omega
      have e : wrongL l = false := by
        unfold wrongL
        rw [decide_eq_false h4, Bool.false_or, List.any_eq_false]
        intro j hj
        rw [HA.out j (List.mem_range.1 hj)]
        simp
      have E := Lib.hid e
      clear e
      go_wp2
      go_ret
      exact ⟨by rw [E.out]; rfl, HW.out⟩
end Go.Proofs.Ytiihlbaajopllaa
