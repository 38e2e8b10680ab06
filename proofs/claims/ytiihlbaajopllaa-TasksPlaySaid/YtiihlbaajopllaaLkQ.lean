/- Walks of locks: Copy. -/
import Derived.Test.YtiihlbaajopllaaLkP
set_option linter.unusedVariables false
set_option maxRecDepth 100000
namespace Go.Proofs.Ytiihlbaajopllaa
open Go.RowKit

theorem copy_nil (w : World) : Calls Try.prog 19 #[.pointer none] w fun e w' => e = .returned (.pointer none) ∧ Below w.heap.size w w' := by
  go_enter Try.func19, Try.ntmps19
  go_wp2
  go_ret
  exact ⟨rfl, Below.refl _ _⟩
/-- Where the next one is hung. -/
def slotOf (g : Nat) (ms : List Nd) : Addr := match ms.getLast? with
  | none => ⟨g, 0, none⟩
  | some z => ⟨z.a, 3, none⟩
theorem slotOf_snoc (g : Nat) (ms : List Nd) (z : Nd) : slotOf g (ms ++ [z]) = ⟨z.a, 3, none⟩ := by unfold slotOf; simp
set_option maxHeartbeats 1000000 in
theorem Copy_any {S : Nat → Prop} {g : Nat} {L : List Tk} (w : World) (h : LkAt w S g L) :
    Calls Try.prog 19 #[.pointer (some ⟨g, 0, none⟩)] w fun e w' => ∃ g', e = .returned (.pointer (some ⟨g', 0, none⟩)) ∧ (lkOb g' L).is w' (fun i => w.heap.size ≤ i ∧ i < w'.heap.size) ∧ Below w.heap.size w w' := by
  obtain ⟨ns, hp, hL, hh⟩ := h
  have hlen := hp.len
  have KN := Lib.hid (locksNew_any w)
  have HP := Lib.hid hp
  have HL := Lib.hid hL
  have HH := Lib.hid hh
  clear hp hL hh
  go_enter Try.func19, Try.ntmps19
  go_wp2_with (go_at_call 12; refine KN.out.mono ?_; rintro e w1 ⟨g', rfl, -, hob, hb1⟩; have hob' := Lib.hid hob; clear hob)
  have hx := extAl w1 (.cells #[.pointer (some ⟨g', 0, none⟩)] 101)
  have heb := heap_alloc_last w1 (.cells #[.pointer (some ⟨g', 0, none⟩)] 101)
  obtain ⟨ms0, hm0, hmm, -⟩ := hob'.out
  obtain rfl : ms0 = [] := List.map_eq_nil_iff.1 hmm
  have hE : Ext w (w1.alloc (.cells #[.pointer (some ⟨g', 0, none⟩)] 101)) := Ext.trans hb1 hx
  have hs1 := Below.size hb1
  have hB := Below.size hE
  have g0 := (hE.cell (p := ⟨g, 0, none⟩) (blk1 HP.out.hg).2.2).trans (blk1 HP.out.hg).1
  have OV := Lib.hid (over_any (lb := #[.pointer (some ⟨w1.heap.size, 0, none⟩)]) (enters_of Try.func58 (by kernel_rfl) rfl)
    (fun k W => Below w.heap.size w W ∧ ∃ ms, LkP W (fun i => w.heap.size ≤ i ∧ i ≠ w1.heap.size) g' ms ∧ ms.length = k ∧ ms.map (·.p) = (ns.take k).map (·.p) ∧ ms.map (·.has) = (ns.take k).map (·.has) ∧ W.heap[w1.heap.size]? = some (.cells #[.pointer (some (slotOf g' ms))] 101 (0, 0)))
    (fun W => Below w.heap.size w W ∧ ∃ ms, LkP W (fun i => w.heap.size ≤ i ∧ i ≠ w1.heap.size) g' ms ∧ ms.map (·.p) = ns.map (·.p) ∧ ms.map (·.has) = ns.map (·.has)) _
    ⟨hE, [], (hm0.ext hx).mono fun i hi => ⟨hi.1, by omega⟩, rfl, rfl, rfl, heb⟩ g0
    (fun k x W hx ⟨hW, ms, hm, hk, hp, hhs, heb⟩ => by
      have hkl := (List.getElem?_eq_some_iff.1 hx).1
      have hst := ((hW.cell (p := ⟨x.a, 3, none⟩) (blk4 (HP.out.nd k x hx)).2.2.2.2.2).trans (blk4 (HP.out.nd k x hx)).2.2.2.1)
      have fin : ∀ W', Below w.heap.size W W' → ∀ nd : Nd, nd.p = x.p → nd.has = x.has → LkP W' (fun i => w.heap.size ≤ i ∧ i ≠ w1.heap.size) g' (ms ++ [nd]) → W'.heap[w1.heap.size]? = some (.cells #[.pointer (some ⟨nd.a, 3, none⟩)] 101 (0, 0)) →
          (Below w.heap.size w W' ∧ ∃ ms, LkP W' (fun i => w.heap.size ≤ i ∧ i ≠ w1.heap.size) g' ms ∧ ms.length = k + 1 ∧ ms.map (·.p) = (ns.take (k + 1)).map (·.p) ∧ ms.map (·.has) = (ns.take (k + 1)).map (·.has) ∧ W'.heap[w1.heap.size]? = some (.cells #[.pointer (some (slotOf g' ms))] 101 (0, 0))) ∧ W'.cell? ⟨x.a, 3, none⟩ = some (ptrAt ns (k + 1)) := fun W' hB' nd e1 e2 hm' he' => by
        refine ⟨⟨Below.trans hW hB', ms ++ [nd], hm', by simp [hk], ?_, ?_, by rw [slotOf_snoc]; exact he'⟩, ?_⟩
        · rw [List.take_add_one, List.map_append, List.map_append, hp, hx]; simp [e1]
        · rw [List.take_add_one, List.map_append, List.map_append, hhs, hx]; simp [e2]
        · exact (hB'.cell (p := ⟨x.a, 3, none⟩) (blk4 (HP.out.nd k x hx)).2.2.2.2.2).trans hst
      cases k with
      | zero =>
        obtain rfl : ms = [] := List.length_eq_zero_iff.1 hk
        refine (copy1_0 rfl W (HP.out.ext hW) hx hW.size hs1 heb hm (by simp)).mono ?_
        rintro e W' ⟨rfl, hB', nd, e1, e2, hm', he'⟩
        exact .inl ⟨rfl, fin W' hB' nd e1 e2 hm' he'⟩
      | succ j =>
        obtain ⟨z, hz⟩ : ∃ z, ms[j]? = some z := ⟨_, List.getElem?_eq_getElem (by omega)⟩
        have hsl : slotOf g' ms = ⟨z.a, 3, none⟩ := by
          unfold slotOf
          rw [List.getLast?_eq_getElem?, hk, show j + 1 - 1 = j by omega, hz]
        rw [hsl] at heb
        refine (copy1_s hk hz W (HP.out.ext hW) hx hW.size hs1 heb hm (by omega)).mono ?_
        rintro e W' ⟨rfl, hB', nd, e1, e2, hm', he'⟩
        exact .inl ⟨rfl, fin W' hB' nd e1 e2 hm' he'⟩)
    (fun W ⟨hW, ms, hm, hk, hp, hhs, heb⟩ => by
      rw [List.take_length] at hp hhs
      exact ⟨hW, ms, hm, hp, hhs⟩))
  clear hx heb hm0 hmm hE hB g0 hob' hb1 KN
  go_wp2_with fail
  refine OV.out.mono ?_
  rintro e W ⟨rfl, hW, ms, hm, hp, hhs⟩
  have F := Lib.hid (show (lkOb g' L).is W (fun i => w.heap.size ≤ i ∧ i < W.heap.size) from ⟨ms, { hm with
      sg := ⟨hm.sg.1, (blk1 hm.hg).2.2⟩
      sa := fun i x hx => ⟨(hm.sa i x hx).1, (blk4 (hm.nd i x hx)).2.2.2.2.2⟩
      sw := fun i x hx b hb => ⟨(hm.sw i x hx b hb).1, (own_lt (hm.wn i x hx) hb).2⟩ }, hp.trans HL.out, fun i x hx => by
      have h1 : (ms.map (·.has))[i]? = some x.has := by simp [hx]
      rw [hhs] at h1
      simp only [List.getElem?_map, Option.map_eq_some_iff] at h1
      obtain ⟨y, hy, e⟩ := h1
      rw [← e]
      exact HH.out i y hy⟩)
  have HW := Lib.hid hW
  clear hW hm hp hhs OV
  go_wp2
  go_ret
  exact ⟨g', rfl, F.out, HW.out⟩
theorem row_nil (w : World) : Calls Try.prog 18 #[.pointer none] w fun e w' => e = .returned (.slice none 0 0) ∧ Below w.heap.size w w' := by
  go_enter Try.func18, Try.ntmps18
  go_wp2
  go_ret
  exact ⟨rfl, Below.refl _ _⟩
theorem has_nil (n : Int) (w : World) : Calls Try.prog 17 #[.pointer none, .int .i64 n] w fun e w' => e = .returned (.bool false) ∧ Below w.heap.size w w' := by
  go_enter Try.func17, Try.ntmps17
  go_wp2
  go_ret
  exact ⟨rfl, Below.refl _ _⟩
end Go.Proofs.Ytiihlbaajopllaa
