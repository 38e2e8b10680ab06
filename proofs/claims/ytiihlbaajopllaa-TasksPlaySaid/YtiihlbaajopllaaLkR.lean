/- Walks: jettyref18.Clash, jettyref16.Same. -/
import Derived.Test.YtiihlbaajopllaaLkQ
set_option linter.unusedVariables false
set_option maxRecDepth 100000
namespace Go.Proofs.Ytiihlbaajopllaa
open Go.RowKit

theorem clash_hit {a b : List Wn} {x y : Wn} {i j : Nat} (hx : a[i]? = some x) (hy : b[j]? = some y) (h : clashW x y = true) : clashL a b = true := by
  unfold clashL
  exact List.any_eq_true.2 ⟨x, List.mem_of_getElem? hx, List.any_eq_true.2 ⟨y, List.mem_of_getElem? hy, h⟩⟩
theorem clash_miss {a b : List Wn} (h : ∀ i x, i < a.length → a[i]? = some x → ∀ j y, j < b.length → b[j]? = some y → clashW x y = false) : clashL a b = false := by
  unfold clashL
  rw [List.any_eq_false]
  intro x hx
  obtain ⟨i, hi, rfl⟩ := List.getElem_of_mem hx
  rw [Bool.not_eq_true, List.any_eq_false]
  intro y hy
  obtain ⟨j, hj, rfl⟩ := List.getElem_of_mem hy
  rw [Bool.not_eq_true]
  exact h i _ hi (List.getElem?_eq_getElem hi) j _ hj (List.getElem?_eq_getElem hj)
set_option maxHeartbeats 4000000 in
theorem Clash_any {va vb : Value} (a b : List Wn) (w : World) (ha : RWn w va a) (hb : RWn w vb b) (hal : a.length ≤ 1000000) (hbl : b.length ≤ 1000000) :
    Calls Try.prog 16 #[va, vb] w fun e w' => e = .returned (.bool (clashL a b)) ∧ Below w.heap.size w w' := by
  obtain ⟨A, ca, rfl⟩ := ha.form
  obtain ⟨B, cb, rfl⟩ := hb.form
  have HA := Lib.hid ha
  have HBb := Lib.hid hb
  clear ha hb
  go_enter Try.func16, Try.ntmps16
  go_wp2
  go_loopg [5] a.length (fun gg s wr => ∃ k : Nat, k ≤ a.length ∧ a.length - k ≤ gg ∧ s = .int .i64 k ∧ Hid (Ext w wr) ∧ Hid (∀ i x, i < k → a[i]? = some x → ∀ j y, j < b.length → b[j]? = some y → clashW x y = false))
  case atStart => exact ⟨0, Nat.zero_le _, by omega, rfl, Lib.hid (Ext.refl w), Lib.hid fun j y hj => absurd hj (Nat.not_lt_zero _)⟩
  case round =>
    obtain ⟨k, hk, hg, rfl, HW, HO⟩ := hrel
    by_cases hlt : k < a.length
    · obtain ⟨ab, ao, rfl, hba, hca, -⟩ := HA.out.at (by omega)
      obtain ⟨x, hx⟩ : ∃ x, a[k]? = some x := ⟨_, List.getElem?_eq_getElem hlt⟩
      have HX := Lib.hid hx
      clear hx
      obtain ⟨wo, rfl⟩ : ∃ wo : World, wo = wr := ⟨_, rfl⟩
      obtain ⟨gko, rfl⟩ : ∃ g : Nat, g = gk := ⟨_, rfl⟩
      go_wp2
      go_loopg [6] b.length (fun gg s wr => ∃ m : Nat, m ≤ b.length ∧ b.length - m ≤ gg ∧ s = .int .i64 m ∧ Hid (Ext w wr) ∧ Hid (∀ j y, j < m → b[j]? = some y → clashW x y = false))
      case atStart => exact ⟨0, Nat.zero_le _, by omega, rfl, HW, Lib.hid fun j y hj => absurd hj (Nat.not_lt_zero _)⟩
      case round =>
        obtain ⟨m, hm, hg2, rfl, HW2, HB⟩ := hrel
        by_cases hlt2 : m < b.length
        · obtain ⟨bb', bo, rfl, hbb, hcb, -⟩ := HBb.out.at (by omega)
          obtain ⟨y, hy⟩ : ∃ y, b[m]? = some y := ⟨_, List.getElem?_eq_getElem hlt2⟩
          obtain ⟨x0, x1⟩ := RWn.want (HA.out.ext HW2.out) HX.out
          obtain ⟨y0, y1⟩ := RWn.want (HBb.out.ext HW2.out) hy
          have ba : ab < wr.heap.size := Nat.lt_of_lt_of_le hba (Below.size HW2.out)
          have bb : bb' < wr.heap.size := Nat.lt_of_lt_of_le hbb (Below.size HW2.out)
          have HY := Lib.hid hy
          clear hy
          obtain ⟨p, q⟩ := x
          obtain ⟨r, s⟩ := y
          simp only at x0 x1 y0 y1
          by_cases hpr : p = r
          · subst hpr
            cases q with
            | true =>
              have E := Lib.hid (clash_hit HX.out HY.out (show clashW _ _ = true by simp [clashW]))
              have e0 := fun (ψ : World → Prop) (e : ExtP wr.heap.size wr ψ) => e.cell x0 ba
              have e1 := fun (ψ : World → Prop) (e : ExtP wr.heap.size wr ψ) => e.cell y0 bb
              have e2 := fun (ψ : World → Prop) (e : ExtP wr.heap.size wr ψ) => e.cell x1 ba
              have e3 := fun (ψ : World → Prop) (e : ExtP wr.heap.size wr ψ) => e.cell y1 bb
              clear x0 x1 y0 y1
              go_wp2
              refine wp_region_pieces 25  [(true, [0, 1, 2, 3, 4, 5, 6, 7, 8, 9, 10, 11, 12, 13, 14, 15, 16, 17, 18, 19, 20, 21, 22, 23, 24])] (by kernel_rfl) (by kernel_rfl) ?_; simp only [pick, List.map_cons, List.map_nil, List.flatMap_cons, List.flatMap_nil, Option.toList_some, List.singleton_append, List.drop_succ_cons, List.drop_zero, List.getElem?_cons_zero, List.getElem?_cons_succ]
              refine ⟨by kernel_rfl, ?_⟩; apply Exists.intro; refine ⟨fun ψ hψ hne => (by (repeat (go_big_quiet_step (( fail )))); exact wpQuiet_nil rfl), ?_⟩
              intro w1 h1
              clear e0 e1 e2 e3
              go_wp2
              go_ret
              exact ⟨by rw [E.out]; rfl, Ext.trans HW2.out h1⟩
            | false =>
              cases s with
              | true =>
                have E := Lib.hid (clash_hit HX.out HY.out (show clashW _ _ = true by simp [clashW]))
                have e0 := fun (ψ : World → Prop) (e : ExtP wr.heap.size wr ψ) => e.cell x0 ba
                have e1 := fun (ψ : World → Prop) (e : ExtP wr.heap.size wr ψ) => e.cell y0 bb
                have e2 := fun (ψ : World → Prop) (e : ExtP wr.heap.size wr ψ) => e.cell x1 ba
                have e3 := fun (ψ : World → Prop) (e : ExtP wr.heap.size wr ψ) => e.cell y1 bb
                clear x0 x1 y0 y1
                go_wp2
                refine wp_region_pieces 25  [(true, [0, 1, 2, 3, 4, 5, 6, 7, 8, 9, 10, 11, 12, 13, 14, 15, 16, 17, 18, 19, 20, 21, 22, 23, 24])] (by kernel_rfl) (by kernel_rfl) ?_; simp only [pick, List.map_cons, List.map_nil, List.flatMap_cons, List.flatMap_nil, Option.toList_some, List.singleton_append, List.drop_succ_cons, List.drop_zero, List.getElem?_cons_zero, List.getElem?_cons_succ]
                refine ⟨by kernel_rfl, ?_⟩; apply Exists.intro; refine ⟨fun ψ hψ hne => (by (repeat (go_big_quiet_step (( fail )))); exact wpQuiet_nil rfl), ?_⟩
                intro w1 h1
                clear e0 e1 e2 e3
                go_wp2
                go_ret
                exact ⟨by rw [E.out]; rfl, Ext.trans HW2.out h1⟩
              | false =>
                have E := Lib.hid (show clashW (p, false) (p, false) = false by simp [clashW])
                have e0 := fun (ψ : World → Prop) (e : ExtP wr.heap.size wr ψ) => e.cell x0 ba
                have e1 := fun (ψ : World → Prop) (e : ExtP wr.heap.size wr ψ) => e.cell y0 bb
                have e2 := fun (ψ : World → Prop) (e : ExtP wr.heap.size wr ψ) => e.cell x1 ba
                have e3 := fun (ψ : World → Prop) (e : ExtP wr.heap.size wr ψ) => e.cell y1 bb
                clear x0 x1 y0 y1
                go_wp2
                refine wp_region_pieces 25  [(true, [0, 1, 2, 3, 4, 5, 6, 7, 8, 9, 10, 11, 12, 13, 14, 15, 16, 17, 18, 19, 20, 21, 22, 23, 24])] (by kernel_rfl) (by kernel_rfl) ?_; simp only [pick, List.map_cons, List.map_nil, List.flatMap_cons, List.flatMap_nil, Option.toList_some, List.singleton_append, List.drop_succ_cons, List.drop_zero, List.getElem?_cons_zero, List.getElem?_cons_succ]
                refine ⟨by kernel_rfl, ?_⟩; apply Exists.intro; refine ⟨fun ψ hψ hne => (by (repeat (go_big_quiet_step (( fail )))); exact wpQuiet_nil rfl), ?_⟩
                intro w1 h1
                clear e0 e1 e2 e3
                go_wp2
                go_roundg (b.length - (m + 1))
                case measure => omega
                case rel =>
                  refine ⟨m + 1, by omega, by omega, by go_num, Lib.hid (Ext.trans HW2.out h1), Lib.hid fun j y hj hy => ?_⟩
                  by_cases e : j = m
                  · subst e
                    rw [HY.out] at hy
                    cases hy
                    exact E.out
                  · exact HB.out j y (by omega) hy
          · have hq : (p == r) = false := by rw [beq_eq_false_iff_ne]; exact hpr
            have E := Lib.hid (show clashW (p, q) (r, s) = false by simp [clashW, hpr])
            have e0 := fun (ψ : World → Prop) (e : ExtP wr.heap.size wr ψ) => e.cell x0 ba
            have e1 := fun (ψ : World → Prop) (e : ExtP wr.heap.size wr ψ) => e.cell y0 bb
            have e2 := fun (ψ : World → Prop) (e : ExtP wr.heap.size wr ψ) => e.cell x1 ba
            have e3 := fun (ψ : World → Prop) (e : ExtP wr.heap.size wr ψ) => e.cell y1 bb
            clear x0 x1 y0 y1
            go_wp2
            refine wp_region_pieces 25  [(true, [0, 1, 2, 3, 4, 5, 6, 7, 8, 9, 10, 11, 12, 13, 14, 15, 16, 17, 18, 19, 20, 21, 22, 23, 24])] (by kernel_rfl) (by kernel_rfl) ?_; simp only [pick, List.map_cons, List.map_nil, List.flatMap_cons, List.flatMap_nil, Option.toList_some, List.singleton_append, List.drop_succ_cons, List.drop_zero, List.getElem?_cons_zero, List.getElem?_cons_succ]
            refine ⟨by kernel_rfl, ?_⟩; apply Exists.intro; refine ⟨fun ψ hψ hne => (by (repeat (go_big_quiet_step (( fail )))); exact wpQuiet_nil rfl), ?_⟩
            intro w1 h1
            clear e0 e1 e2 e3
            go_wp2
            go_roundg (b.length - (m + 1))
            case measure => omega
            case rel =>
              refine ⟨m + 1, by omega, by omega, by go_num, Lib.hid (Ext.trans HW2.out h1), Lib.hid fun j y hj hy => ?_⟩
              by_cases e : j = m
              · subst e
                rw [HY.out] at hy
                cases hy
                exact E.out
              · exact HB.out j y (by omega) hy
        · obtain rfl : m = b.length := by omega
          go_wp2
          go_roundg (a.length - (k + 1))
          case measure => omega
          case rel =>
            refine ⟨k + 1, by omega, by omega, by go_num, HW2, Lib.hid fun i z hi hz => ?_⟩
            by_cases e : i = k
            · subst e
              rw [HX.out] at hz
              cases hz
              exact HB.out
            · exact HO.out i z (by omega) hz
    · obtain rfl : k = a.length := by omega
      have E := Lib.hid (clash_miss HO.out)
      go_wp2
      go_ret
      exact ⟨by rw [E.out]; rfl, HW.out⟩
/-! The same numbers? -/
abbrev RIn (w : World) (v : Value) (l : List Int) : Prop := RR w 1 v l.length (ics l)
theorem RIn.num {w : World} {b off c k : Nat} {l : List Int} {n : Int} (h : RIn w (.slice (some ⟨b, off, none⟩) l.length c) l) (hk : l[k]? = some n) : w.cell? ⟨b, off + k, none⟩ = some (.int .i64 n) := by
  obtain ⟨b', off', hA, _, _, hj⟩ := h.at (by have := (List.getElem?_eq_some_iff.1 hk).1; omega)
  simp only [Option.some.injEq, Addr.mk.injEq, and_true] at hA
  obtain ⟨rfl, rfl⟩ := hA
  obtain ⟨hkl, rfl⟩ := List.getElem?_eq_some_iff.1 hk
  rw [hj k (by simpa [ics] using hkl)]
  simp [ics]
def sameB (a b : List Int) : Bool := decide (a = b)
theorem sameB_len {a b : List Int} (h : a.length ≠ b.length) : sameB a b = false := by
  unfold sameB
  rw [decide_eq_false_iff_not]
  rintro rfl
  exact h rfl
theorem sameB_at {a b : List Int} {k : Nat} {x y : Int} (hx : a[k]? = some x) (hy : b[k]? = some y) (h : x ≠ y) : sameB a b = false := by
  unfold sameB
  rw [decide_eq_false_iff_not]
  rintro rfl
  rw [hx] at hy
  cases hy
  exact h rfl
theorem sameB_all {a b : List Int} (hl : a.length = b.length) (h : ∀ j x y, j < a.length → a[j]? = some x → b[j]? = some y → x = y) : sameB a b = true := by
  unfold sameB
  rw [decide_eq_true_iff]
  apply List.ext_getElem hl
  intro j h1 h2
  exact h j _ _ h1 (List.getElem?_eq_getElem h1) (List.getElem?_eq_getElem h2)
set_option maxHeartbeats 1000000 in
theorem Same_any {va vb : Value} (a b : List Int) (w : World) (ha : RIn w va a) (hb : RIn w vb b) (hal : a.length ≤ 1000000) (hbl : b.length ≤ 1000000) :
    Calls Try.prog 23 #[va, vb] w fun e w' => e = .returned (.bool (sameB a b)) ∧ Below w.heap.size w w' := by
  obtain ⟨A, ca, rfl⟩ := ha.form
  obtain ⟨B, cb, rfl⟩ := hb.form
  have HA := Lib.hid ha
  have HB := Lib.hid hb
  clear ha hb
  by_cases hl : a.length = b.length
  · have HL := Lib.hid hl
    rw [hl]
    have hal' : a.length ≤ b.length := by omega
    clear hl hal
    rw [HL.out] at HA
    go_enter Try.func23, Try.ntmps23
    go_wp2
    go_loopg [5] b.length (fun gg s wr => ∃ k : Nat, k ≤ b.length ∧ b.length - k ≤ gg ∧ s = .int .i64 k ∧ Hid (Ext w wr) ∧ Hid (∀ j x y, j < k → a[j]? = some x → b[j]? = some y → x = y))
    case atStart => exact ⟨0, Nat.zero_le _, by omega, rfl, Lib.hid (Ext.refl w), Lib.hid fun j x y hj => absurd hj (Nat.not_lt_zero _)⟩
    case round =>
      obtain ⟨k, hk, hg, rfl, HW, HO⟩ := hrel
      by_cases hlt : k < b.length
      · rw [← HL.out] at HA
        obtain ⟨ab, ao, hA, hba, hca, -⟩ := HA.out.at (by have := HL.out; omega)
        subst hA
        obtain ⟨bb', bo, rfl, hbb, hcb, -⟩ := HB.out.at (by omega)
        obtain ⟨x, hx⟩ : ∃ x, a[k]? = some x := ⟨_, List.getElem?_eq_getElem (by have := HL.out; omega)⟩
        obtain ⟨y, hy⟩ : ∃ y, b[k]? = some y := ⟨_, List.getElem?_eq_getElem hlt⟩
        have x0 := RIn.num (HA.out.ext HW.out) hx
        have y0 := RIn.num (HB.out.ext HW.out) hy
        have ba : ab < wr.heap.size := Nat.lt_of_lt_of_le hba (Below.size HW.out)
        have bb : bb' < wr.heap.size := Nat.lt_of_lt_of_le hbb (Below.size HW.out)
        have HX := Lib.hid hx
        have HY := Lib.hid hy
        rw [HL.out] at hca
        clear hx hy
        by_cases hxy : x = y
        · subst hxy
          have e0 := fun (ψ : World → Prop) (e : ExtP wr.heap.size wr ψ) => e.cell x0 ba
          have e1 := fun (ψ : World → Prop) (e : ExtP wr.heap.size wr ψ) => e.cell y0 bb
          clear x0 y0
          go_wp2
          refine wp_region_pieces 9  [(true, [0, 1, 2, 3, 4, 5, 6, 7, 8])] (by kernel_rfl) (by kernel_rfl) ?_; simp only [pick, List.map_cons, List.map_nil, List.flatMap_cons, List.flatMap_nil, Option.toList_some, List.singleton_append, List.drop_succ_cons, List.drop_zero, List.getElem?_cons_zero, List.getElem?_cons_succ]
          refine ⟨by kernel_rfl, ?_⟩; apply Exists.intro; refine ⟨fun ψ hψ hne => (by (repeat (go_big_quiet_step (( fail )))); exact wpQuiet_nil rfl), ?_⟩
          intro w1 h1
          clear e0 e1
          go_wp2
          go_roundg (b.length - (k + 1))
          case measure => omega
          case rel =>
            refine ⟨k + 1, by omega, by omega, by go_num, Lib.hid (Ext.trans HW.out h1), Lib.hid fun j p q hj hp hq => ?_⟩
            by_cases e : j = k
            · subst e
              rw [HX.out] at hp
              rw [HY.out] at hq
              cases hp
              cases hq
              rfl
            · exact HO.out j p q (by omega) hp hq
        · have hq : (x != y) = true := by rw [bne_iff_ne]; exact hxy
          have E := Lib.hid (sameB_at HX.out HY.out hxy)
          clear hxy
          have e0 := fun (ψ : World → Prop) (e : ExtP wr.heap.size wr ψ) => e.cell x0 ba
          have e1 := fun (ψ : World → Prop) (e : ExtP wr.heap.size wr ψ) => e.cell y0 bb
          clear x0 y0
          go_wp2
          refine wp_region_pieces 9  [(true, [0, 1, 2, 3, 4, 5, 6, 7, 8])] (by kernel_rfl) (by kernel_rfl) ?_; simp only [pick, List.map_cons, List.map_nil, List.flatMap_cons, List.flatMap_nil, Option.toList_some, List.singleton_append, List.drop_succ_cons, List.drop_zero, List.getElem?_cons_zero, List.getElem?_cons_succ]
          refine ⟨by kernel_rfl, ?_⟩; apply Exists.intro; refine ⟨fun ψ hψ hne => (by (repeat (go_big_quiet_step (( fail )))); exact wpQuiet_nil rfl), ?_⟩
          intro w1 h1
          clear e0 e1
          go_wp2
          go_ret
          exact ⟨by rw [E.out]; rfl, Ext.trans HW.out h1⟩
      · obtain rfl : k = b.length := by omega
        have E := Lib.hid (sameB_all HL.out fun j x y hj => HO.out j x y (by have := HL.out; omega))
        go_wp2
        go_ret
        exact ⟨by rw [E.out]; rfl, HW.out⟩
  · rw [sameB_len hl]
    have hq : ((a.length : Int) != (b.length : Int)) = true := by rw [bne_iff_ne]; omega
    clear hl HA HB
    go_enter Try.func23, Try.ntmps23
    go_wp2
    go_ret
    exact ⟨rfl, Below.refl _ _⟩
end Go.Proofs.Ytiihlbaajopllaa
