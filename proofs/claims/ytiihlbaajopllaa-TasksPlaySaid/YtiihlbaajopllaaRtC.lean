/- The document's table: Ask. -/
import Derived.Test.YtiihlbaajopllaaRtB
set_option linter.unusedVariables false
set_option maxRecDepth 100000
namespace Go.Proofs.Ytiihlbaajopllaa
open Go.RowKit

/-- One task more. -/
theorem RtP.push {w w' : World} {S S' : Nat → Prop} {g : Nat} {v v' : Value} {ls : List Rn} (r : Rn) (h : RtP w S g v ls) (hg : w'.heap[g]? = some (.cells #[v'] 47 (0, 0)))
    (ho : OwnR w' 0 126 2 One v' (ls.length + 1) (rncs ls ++ rnC r)) (hw : OwnR w' 0 98 2 One r.wv r.p.2.length (wncs r.p.2))
    (hk : ∀ r ∈ ls, OwnR w' 0 98 2 One r.wv r.p.2.length (wncs r.p.2)) (hS : ∀ i, S i → S' i) (hv : ∀ b, v'.ownBlock = some b → S' b) (hlen : ls.length < 16) (hwl : r.p.2.length ≤ 4) :
    RtP w' S' g v' (ls ++ [r]) where
  hg := hg
  row := by
    rw [List.length_append, List.length_singleton]
    have : rncs (ls ++ [r]) = rncs ls ++ rnC r := by simp [rncs]
    rw [this]
    exact ho
  wn := fun q hq => by
    rcases List.mem_append.1 hq with hq | hq
    · exact hk q hq
    · simp at hq
      subst hq
      exact hw
  sg := hS _ h.sg
  sv := hv
  len := by simp; omega
  wl := fun q hq => by
    rcases List.mem_append.1 hq with hq | hq
    · exact h.wl q hq
    · simp at hq
      subst hq
      exact hwl
theorem askE_full {L : List Tk} {n : Int} {l : List Wn} (hn : ¬ n < 0) (hw : wrongL l = false) : askE L n l = if (atL L n).isSome then 6 else if 16 ≤ L.length then 3 else 0 := by
  unfold askE
  rw [if_neg (by rw [hw]; simp; omega)]
set_option maxHeartbeats 4000000 in
/-- Wants that may not be. -/
theorem rask_bad {S : Nat → Prop} {g : Nat} {L : List Tk} {v : Value} (n : Int) (l : List Wn) (w : World) (h : RtAt w S g L) (hv : RWn w v l) (hll : l.length ≤ 1000000) (hwr : wrongL l = true) (hn : ¬ n < 0) :
    Calls Try.prog 59 #[.pointer (some ⟨g, 0, none⟩), .int .i64 n, v] w fun e w' => e = .returned (.tuple #[.bool false, .int .i64 1]) ∧ Ext w w' := by
  obtain ⟨A, c, rfl⟩ := hv.form
  have hn0 : 0 ≤ n := by omega
  clear hn
  have HV := Lib.hid hv
  clear h hv
  by_cases h4 : 4 < l.length
  · have h4' : (4 : Int) < (l.length : Int) := by omega
    go_enter Try.func59, Try.ntmps59
    go_wp2
    go_ret2
    exact ⟨rfl, Ext.refl _⟩
  have h4' : (l.length : Int) ≤ 4 := by omega
  have HWR := Lib.hid hwr
  clear hwr
  go_enter Try.func59, Try.ntmps59
  go_wp2
  go_loopg [8] l.length (fun gg s wr => ∃ k : Nat, k ≤ l.length ∧ l.length - k ≤ gg ∧ s = .int .i64 k ∧ Hid (Ext w wr) ∧ Hid (∀ j, j < k → badAt l j = false))
  case atStart => exact ⟨0, Nat.zero_le _, by omega, rfl, Lib.hid (Ext.refl w), Lib.hid fun j hj => absurd hj (Nat.not_lt_zero _)⟩
  case round =>
    obtain ⟨k, hk, hg, rfl, HW, HA⟩ := hrel
    by_cases hlt : k < l.length
    · obtain ⟨b, off, rfl, hb, hc, -⟩ := HV.out.at (by omega)
      obtain ⟨x, hx⟩ : ∃ x, l[k]? = some x := ⟨_, List.getElem?_eq_getElem hlt⟩
      obtain ⟨x0, x1⟩ := RWn.want (HV.out.ext HW.out) hx
      have hbad : badAt l k = (decide (x.1 < 1) || (l.take k).any fun y => decide (y.1 = x.1)) := by unfold badAt; rw [hx]
      have ba : b < wr.heap.size := Nat.lt_of_lt_of_le hb (Below.size HW.out)
      have HX := Lib.hid hx
      have HBad := Lib.hid hbad
      clear hx x1 hbad
      by_cases h1' : x.1 < 1
      · (go_wp2; go_ret2; exact ⟨rfl, HW.out⟩)
      · have H1 := Lib.hid (decide_eq_false h1')
        obtain ⟨wo, rfl⟩ : ∃ wo : World, wo = wr := ⟨_, rfl⟩
        obtain ⟨gko, rfl⟩ : ∃ g : Nat, g = gk := ⟨_, rfl⟩
        have X0 := Lib.hid x0
        go_wp2
        clear x0
        go_loopg [9] k (fun gg s wr => ∃ m : Nat, m ≤ k ∧ k - m ≤ gg ∧ s = .int .i64 m ∧ Hid (Ext wo wr) ∧ Hid (∀ j y, j < m → l[j]? = some y → y.1 ≠ x.1))
        case atStart => exact ⟨0, Nat.zero_le _, by omega, rfl, Lib.hid (Ext.refl wo), Lib.hid fun j y hj => absurd hj (Nat.not_lt_zero _)⟩
        case round =>
          obtain ⟨m, hm, hg2, rfl, HW2, HB⟩ := hrel
          by_cases hlt2 : m < k
          · obtain ⟨y, hy⟩ : ∃ y, l[m]? = some y := ⟨_, List.getElem?_eq_getElem (by omega)⟩
            obtain ⟨y0, y1⟩ := RWn.want (HV.out.ext (Ext.trans HW.out HW2.out)) hy
            have x0' := HW2.out.cells1 ba X0.out
            have ba' : b < wr.heap.size := Nat.lt_of_lt_of_le ba (Below.size HW2.out)
            have HY := Lib.hid hy
            clear hy y1
            by_cases hxy : y.1 = x.1
            · (have x0'' := x0'; rw [← hxy] at x0''; clear x0'; go_wp2; have e0 := fun (ψ : World → Prop) (e : ExtP wr.heap.size wr ψ) => e.cell x0'' ba'; have e1 := fun (ψ : World → Prop) (e : ExtP wr.heap.size wr ψ) => e.cell y0 ba'; clear x0'' y0; refine wp_region_pieces 11  [(true, [0, 1, 2, 3, 4, 5, 6, 7, 8, 9, 10])] (by kernel_rfl) (by kernel_rfl) ?_; simp only [pick, List.map_cons, List.map_nil, List.flatMap_cons, List.flatMap_nil, Option.toList_some, List.singleton_append, List.drop_succ_cons, List.drop_zero, List.getElem?_cons_zero, List.getElem?_cons_succ]; refine ⟨by kernel_rfl, ?_⟩; apply Exists.intro; refine ⟨fun ψ hψ hne => (by (repeat (go_big_quiet_step (( fail )))); exact wpQuiet_nil rfl), ?_⟩; intro w1 h1; clear e0 e1; go_wp2; go_ret2; exact ⟨rfl, Ext.trans HW.out (Ext.trans HW2.out h1)⟩)
            · have hq : (y.1 == x.1) = false := by rw [beq_eq_false_iff_ne]; exact hxy
              have HXY := Lib.hid hxy
              clear hxy
              go_wp2
              have e0 := fun (ψ : World → Prop) (e : ExtP wr.heap.size wr ψ) => e.cell x0' ba'
              have e1 := fun (ψ : World → Prop) (e : ExtP wr.heap.size wr ψ) => e.cell y0 ba'
              clear x0' y0
              refine wp_region_pieces 11  [(true, [0, 1, 2, 3, 4, 5, 6, 7, 8, 9, 10])] (by kernel_rfl) (by kernel_rfl) ?_; simp only [pick, List.map_cons, List.map_nil, List.flatMap_cons, List.flatMap_nil, Option.toList_some, List.singleton_append, List.drop_succ_cons, List.drop_zero, List.getElem?_cons_zero, List.getElem?_cons_succ]
              refine ⟨by kernel_rfl, ?_⟩; apply Exists.intro; refine ⟨fun ψ hψ hne => (by (repeat (go_big_quiet_step (( fail )))); exact wpQuiet_nil rfl), ?_⟩
              intro w1 h1
              clear e0 e1
              go_wp2
              go_roundg (k - (m + 1))
              case measure => omega
              case rel =>
                refine ⟨m + 1, by omega, by omega, by go_num, Lib.hid (Ext.trans HW2.out h1), Lib.hid fun j z hj hz => ?_⟩
                by_cases e : j = m
                · subst e
                  rw [HY.out] at hz
                  cases hz
                  exact HXY.out
                · exact HB.out j z (by omega) hz
          · obtain rfl : m = k := by omega
            go_wp2
            go_roundg (l.length - (m + 1))
            case measure => omega
            case rel =>
              refine ⟨m + 1, by omega, by omega, by go_num, Lib.hid (Ext.trans HW.out HW2.out), Lib.hid fun j hj => ?_⟩
              by_cases e : j = m
              · subst e
                rw [HBad.out, H1.out, Bool.false_or, List.any_eq_false]
                intro y hy
                obtain ⟨i, hi, rfl⟩ := List.getElem_of_mem hy
                simp only [List.length_take] at hi
                rw [List.getElem_take]
                simpa using HB.out i _ (by omega) (List.getElem?_eq_getElem (by omega))
              · exact HA.out j (by omega)
    · obtain rfl : k = l.length := by omega
      (exfalso; have := HWR.out; unfold wrongL at this; rw [decide_eq_false h4, Bool.false_or, List.any_eq_true] at this; obtain ⟨j, hj, hj2⟩ := this; rw [HA.out j (List.mem_range.1 hj)] at hj2; cases hj2)
theorem RtAt.ext' {w w' : World} {S : Nat → Prop} {g : Nat} {L : List Tk} (h : RtAt w S g L) (k : Ext w w') : RtAt w' S g L := (rtOb g L).ext h k
set_option maxHeartbeats 4000000 in
theorem rask_twice {S : Nat → Prop} {g i : Nat} {L : List Tk} {v : Value} (n : Int) (l : List Wn) (w : World) (h : RtAt w S g L) (hv : RWn w v l) (hwr : wrongL l = false) (hn : ¬ n < 0) (hwl : l.length ≤ 4) (hat : atL L n = some i) :
    Calls Try.prog 59 #[.pointer (some ⟨g, 0, none⟩), .int .i64 n, v] w fun e w' => e = .returned (.tuple #[.bool false, .int .i64 6]) ∧ Ext w w' := by
  obtain ⟨A, c, rfl⟩ := hv.form
  have hn0 : 0 ≤ n := by omega
  have HV := Lib.hid hv
  have HO := Lib.hid h
  have HWR := Lib.hid hwr
  have HAt : Hid (atI L n = i) := Lib.hid (by unfold atI; rw [hat])
  clear h hv hwr hn hat
  have h4' : (l.length : Int) ≤ 4 := by omega
  go_enter Try.func59, Try.ntmps59
  go_wp2
  go_loopg [8] l.length (fun gg s wr => ∃ k : Nat, k ≤ l.length ∧ l.length - k ≤ gg ∧ s = .int .i64 k ∧ Hid (Ext w wr) ∧ Hid (∀ j, j < k → badAt l j = false))
  case atStart => exact ⟨0, Nat.zero_le _, by omega, rfl, Lib.hid (Ext.refl w), Lib.hid fun j hj => absurd hj (Nat.not_lt_zero _)⟩
  case round =>
    obtain ⟨k, hk, hg, rfl, HW, HA⟩ := hrel
    by_cases hlt : k < l.length
    · obtain ⟨b, off, rfl, hb, hc, -⟩ := HV.out.at (by omega)
      obtain ⟨x, hx⟩ : ∃ x, l[k]? = some x := ⟨_, List.getElem?_eq_getElem hlt⟩
      obtain ⟨x0, x1⟩ := RWn.want (HV.out.ext HW.out) hx
      have hbad : badAt l k = (decide (x.1 < 1) || (l.take k).any fun y => decide (y.1 = x.1)) := by unfold badAt; rw [hx]
      have ba : b < wr.heap.size := Nat.lt_of_lt_of_le hb (Below.size HW.out)
      have HX := Lib.hid hx
      have HBad := Lib.hid hbad
      clear hx x1 hbad
      by_cases h1' : x.1 < 1
      · (exfalso; have := wrong_far hlt (by rw [HBad.out, decide_eq_true h1']; rfl); rw [HWR.out] at this; cases this)
      · have H1 := Lib.hid (decide_eq_false h1')
        obtain ⟨wo, rfl⟩ : ∃ wo : World, wo = wr := ⟨_, rfl⟩
        obtain ⟨gko, rfl⟩ : ∃ g : Nat, g = gk := ⟨_, rfl⟩
        have X0 := Lib.hid x0
        go_wp2
        clear x0
        go_loopg [9] k (fun gg s wr => ∃ m : Nat, m ≤ k ∧ k - m ≤ gg ∧ s = .int .i64 m ∧ Hid (Ext wo wr) ∧ Hid (∀ j y, j < m → l[j]? = some y → y.1 ≠ x.1))
        case atStart => exact ⟨0, Nat.zero_le _, by omega, rfl, Lib.hid (Ext.refl wo), Lib.hid fun j y hj => absurd hj (Nat.not_lt_zero _)⟩
        case round =>
          obtain ⟨m, hm, hg2, rfl, HW2, HB⟩ := hrel
          by_cases hlt2 : m < k
          · obtain ⟨y, hy⟩ : ∃ y, l[m]? = some y := ⟨_, List.getElem?_eq_getElem (by omega)⟩
            obtain ⟨y0, y1⟩ := RWn.want (HV.out.ext (Ext.trans HW.out HW2.out)) hy
            have x0' := HW2.out.cells1 ba X0.out
            have ba' : b < wr.heap.size := Nat.lt_of_lt_of_le ba (Below.size HW2.out)
            have HY := Lib.hid hy
            clear hy y1
            by_cases hxy : y.1 = x.1
            · (exfalso; have := wrong_far hlt (by rw [HBad.out, Bool.or_eq_true]; exact .inr (List.any_eq_true.2 ⟨y, List.mem_take_iff_getElem.2 ⟨m, by omega, (List.getElem?_eq_some_iff.1 HY.out).2⟩, by simpa using hxy⟩)); rw [HWR.out] at this; cases this)
            · have hq : (y.1 == x.1) = false := by rw [beq_eq_false_iff_ne]; exact hxy
              have HXY := Lib.hid hxy
              clear hxy
              go_wp2
              have e0 := fun (ψ : World → Prop) (e : ExtP wr.heap.size wr ψ) => e.cell x0' ba'
              have e1 := fun (ψ : World → Prop) (e : ExtP wr.heap.size wr ψ) => e.cell y0 ba'
              clear x0' y0
              refine wp_region_pieces 11  [(true, [0, 1, 2, 3, 4, 5, 6, 7, 8, 9, 10])] (by kernel_rfl) (by kernel_rfl) ?_; simp only [pick, List.map_cons, List.map_nil, List.flatMap_cons, List.flatMap_nil, Option.toList_some, List.singleton_append, List.drop_succ_cons, List.drop_zero, List.getElem?_cons_zero, List.getElem?_cons_succ]
              refine ⟨by kernel_rfl, ?_⟩; apply Exists.intro; refine ⟨fun ψ hψ hne => (by (repeat (go_big_quiet_step (( fail )))); exact wpQuiet_nil rfl), ?_⟩
              intro w1 h1
              clear e0 e1
              go_wp2
              go_roundg (k - (m + 1))
              case measure => omega
              case rel =>
                refine ⟨m + 1, by omega, by omega, by go_num, Lib.hid (Ext.trans HW2.out h1), Lib.hid fun j z hj hz => ?_⟩
                by_cases e : j = m
                · subst e
                  rw [HY.out] at hz
                  cases hz
                  exact HXY.out
                · exact HB.out j z (by omega) hz
          · obtain rfl : m = k := by omega
            go_wp2
            go_roundg (l.length - (m + 1))
            case measure => omega
            case rel =>
              refine ⟨m + 1, by omega, by omega, by go_num, Lib.hid (Ext.trans HW.out HW2.out), Lib.hid fun j hj => ?_⟩
              by_cases e : j = m
              · subst e
                rw [HBad.out, H1.out, Bool.false_or, List.any_eq_false]
                intro y hy
                obtain ⟨i, hi, rfl⟩ := List.getElem_of_mem hy
                simp only [List.length_take] at hi
                rw [List.getElem_take]
                simpa using HB.out i _ (by omega) (List.getElem?_eq_getElem (by omega))
              · exact HA.out j (by omega)
    · obtain rfl : k = l.length := by omega
      (have K := Lib.hid (rat_any n wr (HO.out.ext' HW.out)); rw [HAt.out] at K; go_wp2_with (go_at_call 79; refine K.out.mono ?_; rintro e w1 ⟨rfl, rfl⟩); go_ret2; exact ⟨rfl, HW.out⟩)
set_option maxHeartbeats 4000000 in
theorem rask_full {S : Nat → Prop} {g : Nat} {L : List Tk} {v : Value} (n : Int) (l : List Wn) (w : World) (h : RtAt w S g L) (hv : RWn w v l) (hwr : wrongL l = false) (hn : ¬ n < 0) (hwl : l.length ≤ 4) (hat : atL L n = none) (hf : 16 ≤ L.length) :
    Calls Try.prog 59 #[.pointer (some ⟨g, 0, none⟩), .int .i64 n, v] w fun e w' => e = .returned (.tuple #[.bool false, .int .i64 3]) ∧ Ext w w' := by
  obtain ⟨A, c, rfl⟩ := hv.form
  have hn0 : 0 ≤ n := by omega
  have HV := Lib.hid hv
  have HO := Lib.hid h
  have HWR := Lib.hid hwr
  have HAt : Hid (atI L n = -1) := Lib.hid (by unfold atI; rw [hat])
  obtain ⟨vv, ls, hp, hL⟩ := h
  obtain ⟨A2, c2, rfl⟩ := hp.row.form
  obtain ⟨c0, -, gl⟩ := blk1 hp.hg
  have hf' : (16 : Int) ≤ (ls.length : Int) := by rw [← hL] at hf; simp at hf; omega
  clear hp hL hv hwr hn hat hf
  have h4' : (l.length : Int) ≤ 4 := by omega
  go_enter Try.func59, Try.ntmps59
  go_wp2
  go_loopg [8] l.length (fun gg s wr => ∃ k : Nat, k ≤ l.length ∧ l.length - k ≤ gg ∧ s = .int .i64 k ∧ Hid (Ext w wr) ∧ Hid (∀ j, j < k → badAt l j = false))
  case atStart => exact ⟨0, Nat.zero_le _, by omega, rfl, Lib.hid (Ext.refl w), Lib.hid fun j hj => absurd hj (Nat.not_lt_zero _)⟩
  case round =>
    obtain ⟨k, hk, hg, rfl, HW, HA⟩ := hrel
    by_cases hlt : k < l.length
    · obtain ⟨b, off, rfl, hb, hc, -⟩ := HV.out.at (by omega)
      obtain ⟨x, hx⟩ : ∃ x, l[k]? = some x := ⟨_, List.getElem?_eq_getElem hlt⟩
      obtain ⟨x0, x1⟩ := RWn.want (HV.out.ext HW.out) hx
      have hbad : badAt l k = (decide (x.1 < 1) || (l.take k).any fun y => decide (y.1 = x.1)) := by unfold badAt; rw [hx]
      have ba : b < wr.heap.size := Nat.lt_of_lt_of_le hb (Below.size HW.out)
      have HX := Lib.hid hx
      have HBad := Lib.hid hbad
      clear hx x1 hbad
      by_cases h1' : x.1 < 1
      · (exfalso; have := wrong_far hlt (by rw [HBad.out, decide_eq_true h1']; rfl); rw [HWR.out] at this; cases this)
      · have H1 := Lib.hid (decide_eq_false h1')
        obtain ⟨wo, rfl⟩ : ∃ wo : World, wo = wr := ⟨_, rfl⟩
        obtain ⟨gko, rfl⟩ : ∃ g : Nat, g = gk := ⟨_, rfl⟩
        have X0 := Lib.hid x0
        go_wp2
        clear x0
        go_loopg [9] k (fun gg s wr => ∃ m : Nat, m ≤ k ∧ k - m ≤ gg ∧ s = .int .i64 m ∧ Hid (Ext wo wr) ∧ Hid (∀ j y, j < m → l[j]? = some y → y.1 ≠ x.1))
        case atStart => exact ⟨0, Nat.zero_le _, by omega, rfl, Lib.hid (Ext.refl wo), Lib.hid fun j y hj => absurd hj (Nat.not_lt_zero _)⟩
        case round =>
          obtain ⟨m, hm, hg2, rfl, HW2, HB⟩ := hrel
          by_cases hlt2 : m < k
          · obtain ⟨y, hy⟩ : ∃ y, l[m]? = some y := ⟨_, List.getElem?_eq_getElem (by omega)⟩
            obtain ⟨y0, y1⟩ := RWn.want (HV.out.ext (Ext.trans HW.out HW2.out)) hy
            have x0' := HW2.out.cells1 ba X0.out
            have ba' : b < wr.heap.size := Nat.lt_of_lt_of_le ba (Below.size HW2.out)
            have HY := Lib.hid hy
            clear hy y1
            by_cases hxy : y.1 = x.1
            · (exfalso; have := wrong_far hlt (by rw [HBad.out, Bool.or_eq_true]; exact .inr (List.any_eq_true.2 ⟨y, List.mem_take_iff_getElem.2 ⟨m, by omega, (List.getElem?_eq_some_iff.1 HY.out).2⟩, by simpa using hxy⟩)); rw [HWR.out] at this; cases this)
            · have hq : (y.1 == x.1) = false := by rw [beq_eq_false_iff_ne]; exact hxy
              have HXY := Lib.hid hxy
              clear hxy
              go_wp2
              have e0 := fun (ψ : World → Prop) (e : ExtP wr.heap.size wr ψ) => e.cell x0' ba'
              have e1 := fun (ψ : World → Prop) (e : ExtP wr.heap.size wr ψ) => e.cell y0 ba'
              clear x0' y0
              refine wp_region_pieces 11  [(true, [0, 1, 2, 3, 4, 5, 6, 7, 8, 9, 10])] (by kernel_rfl) (by kernel_rfl) ?_; simp only [pick, List.map_cons, List.map_nil, List.flatMap_cons, List.flatMap_nil, Option.toList_some, List.singleton_append, List.drop_succ_cons, List.drop_zero, List.getElem?_cons_zero, List.getElem?_cons_succ]
              refine ⟨by kernel_rfl, ?_⟩; apply Exists.intro; refine ⟨fun ψ hψ hne => (by (repeat (go_big_quiet_step (( fail )))); exact wpQuiet_nil rfl), ?_⟩
              intro w1 h1
              clear e0 e1
              go_wp2
              go_roundg (k - (m + 1))
              case measure => omega
              case rel =>
                refine ⟨m + 1, by omega, by omega, by go_num, Lib.hid (Ext.trans HW2.out h1), Lib.hid fun j z hj hz => ?_⟩
                by_cases e : j = m
                · subst e
                  rw [HY.out] at hz
                  cases hz
                  exact HXY.out
                · exact HB.out j z (by omega) hz
          · obtain rfl : m = k := by omega
            go_wp2
            go_roundg (l.length - (m + 1))
            case measure => omega
            case rel =>
              refine ⟨m + 1, by omega, by omega, by go_num, Lib.hid (Ext.trans HW.out HW2.out), Lib.hid fun j hj => ?_⟩
              by_cases e : j = m
              · subst e
                rw [HBad.out, H1.out, Bool.false_or, List.any_eq_false]
                intro y hy
                obtain ⟨i, hi, rfl⟩ := List.getElem_of_mem hy
                simp only [List.length_take] at hi
                rw [List.getElem_take]
                simpa using HB.out i _ (by omega) (List.getElem?_eq_getElem (by omega))
              · exact HA.out j (by omega)
    · obtain rfl : k = l.length := by omega
      (have K := Lib.hid (rat_any n wr (HO.out.ext' HW.out)); rw [HAt.out] at K; have f0 := HW.out.cells1 gl c0; go_wp2_with (go_at_call 79; refine K.out.mono ?_; rintro e w1 ⟨rfl, rfl⟩); go_ret2; exact ⟨rfl, HW.out⟩)
end Go.Proofs.Ytiihlbaajopllaa
