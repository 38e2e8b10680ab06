/- Walks of locks: Ask. -/
import Derived.Test.YtiihlbaajopllaaLkK
set_option linter.unusedVariables false
set_option maxRecDepth 100000
namespace Go.Proofs.Ytiihlbaajopllaa
open Go.RowKit

theorem ask_nil (n : Int) (v : Value) (w : World) : Calls Try.prog 13 #[.pointer none, .int .i64 n, v] w fun e w' => e = .returned (.tuple #[.bool false, .int .i64 2]) ∧ Below w.heap.size w w' := by
  go_enter Try.func13, Try.ntmps13
  go_wp2
  go_ret2
  exact ⟨rfl, extAl _ _⟩
/-- The walk over the row: how many there are, the last one, does the task stand there. -/
theorem askOver {S : Nat → Prop} {g tb cb : Nat} {ns : List Nd} {n : Int} (w w3 : World) (h : LkP w S g ns) (hE : Ext w w3) (htd : tb < cb) (hcb : w.heap.size ≤ cb)
    (ht : w3.heap[tb]? = some (.cells #[.int .i64 n] 3 (0, 0))) (hc : w3.heap[cb]? = some (.cells #[.int .i64 0] 3 (0, 0))) (hl : w3.heap[cb + 1]? = some (.cells #[.pointer none] 89 (0, 0))) (hw : w3.heap[cb + 1 + 1]? = some (.cells #[.bool false] 4 (0, 0))) :
    Calls Try.prog 51 #[.pointer (some ⟨g, 0, none⟩), .func (.func 52) #[] #[.pointer (some ⟨cb, 0, none⟩), .pointer (some ⟨cb + 1, 0, none⟩), .pointer (some ⟨cb + 1 + 1, 0, none⟩), .pointer (some ⟨tb, 0, none⟩)]] w3 fun e W =>
      e = .returned (.tuple #[]) ∧ Ext w W ∧ W.heap[tb]? = some (.cells #[.int .i64 n] 3 (0, 0)) ∧ W.heap[cb]? = some (.cells #[.int .i64 ns.length] 3 (0, 0)) ∧ W.heap[cb + 1]? = some (.cells #[prevPtr ns ns.length] 89 (0, 0)) ∧ W.heap[cb + 1 + 1]? = some (.cells #[.bool ((ns.map (·.p)).any fun q => decide (q.1 = n))] 4 (0, 0)) := by
  have hlen := h.len
  refine over_any (enters_of Try.func52 (by kernel_rfl) rfl)
    (fun k W => Ext w W ∧ W.heap[tb]? = some (.cells #[.int .i64 n] 3 (0, 0)) ∧ W.heap[cb]? = some (.cells #[.int .i64 k] 3 (0, 0)) ∧ W.heap[cb + 1]? = some (.cells #[prevPtr ns k] 89 (0, 0)) ∧ W.heap[cb + 1 + 1]? = some (.cells #[.bool (((ns.map (·.p)).take k).any fun q => decide (q.1 = n))] 4 (0, 0)))
    (fun W => Ext w W ∧ W.heap[tb]? = some (.cells #[.int .i64 n] 3 (0, 0)) ∧ W.heap[cb]? = some (.cells #[.int .i64 ns.length] 3 (0, 0)) ∧ W.heap[cb + 1]? = some (.cells #[prevPtr ns ns.length] 89 (0, 0)) ∧ W.heap[cb + 1 + 1]? = some (.cells #[.bool ((ns.map (·.p)).any fun q => decide (q.1 = n))] 4 (0, 0))) w3 ⟨hE, ht, hc, hl, hw⟩ ((hE.cell (p := ⟨g, 0, none⟩) (blk1 h.hg).2.2).trans (blk1 h.hg).1) ?_ ?_
  · rintro k x W hx ⟨hW, h1, h2, h3, h4⟩
    obtain ⟨c0, _, _, c3, _, hxl⟩ := blk4 (h.nd k x hx)
    have hkl := (List.getElem?_eq_some_iff.1 hx).1
    have hstep : (((ns.map (·.p)).take (k + 1)).any fun q => decide (q.1 = n)) = ((((ns.map (·.p)).take k).any fun q => decide (q.1 = n)) || decide (x.p.1 = n)) := by
      rw [List.take_add_one, List.any_append]; simp [hx]
    have fin : ∀ W', Below cb W W' → W'.heap[cb]? = some (.cells #[.int .i64 ((k : Int) + 1)] 3 (0, 0)) → W'.heap[cb + 1]? = some (.cells #[.pointer (some ⟨x.a, 0, none⟩)] 89 (0, 0)) → W'.heap[cb + 1 + 1]? = some (.cells #[.bool ((((ns.map (·.p)).take k).any fun q => decide (q.1 = n)) || decide (x.p.1 = n))] 4 (0, 0)) →
        (Ext w W' ∧ W'.heap[tb]? = some (.cells #[.int .i64 n] 3 (0, 0)) ∧ W'.heap[cb]? = some (.cells #[.int .i64 ((k + 1 : Nat) : Int)] 3 (0, 0)) ∧ W'.heap[cb + 1]? = some (.cells #[prevPtr ns (k + 1)] 89 (0, 0)) ∧ W'.heap[cb + 1 + 1]? = some (.cells #[.bool (((ns.map (·.p)).take (k + 1)).any fun q => decide (q.1 = n))] 4 (0, 0))) ∧ W'.cell? ⟨x.a, 3, none⟩ = some (ptrAt ns (k + 1)) := fun W' hB k0 k1 k2 => by
      have hW' : Ext w W' := Below.trans hW (hB.mono hcb)
      refine ⟨⟨hW', (hB.block tb htd).trans h1, by rw [k0]; simp, ?_, by rw [hstep]; exact k2⟩, hW'.cells1 hxl c3⟩
      show _ = some (Obj.cells #[ptrAt ns k] _ _)
      rw [ptrAt_some hx]; exact k1
    have c0' := hW.cells1 hxl c0
    cases hb : ((ns.map (·.p)).take k).any fun q => decide (q.1 = n) with
    | true =>
      rw [hb] at h4 fin
      refine (ask1_t W trivial (by omega) (by omega) (by omega) htd c0' h1 h2 h3 h4).mono ?_
      rintro e W' ⟨rfl, hB, k0, k1, k2⟩
      exact .inl ⟨rfl, fin W' hB k0 k1 k2⟩
    | false =>
      rw [hb] at h4 fin
      by_cases hm : x.p.1 = n
      · rw [decide_eq_true hm] at fin
        refine (ask1_y W hm (by omega) (by omega) (by omega) htd c0' h1 h2 h3 h4).mono ?_
        rintro e W' ⟨rfl, hB, k0, k1, k2⟩
        exact .inl ⟨rfl, fin W' hB k0 k1 k2⟩
      · rw [decide_eq_false hm] at fin
        refine (ask1_n W hm (by omega) (by omega) (by omega) htd c0' h1 h2 h3 h4).mono ?_
        rintro e W' ⟨rfl, hB, k0, k1, k2⟩
        exact .inl ⟨rfl, fin W' hB k0 k1 k2⟩
  · rintro W ⟨hW, h1, h2, h3, h4⟩
    rw [List.take_of_length_le (by simp)] at h4
    exact ⟨hW, h1, h2, h3, h4⟩
set_option maxHeartbeats 2000000 in
theorem Ask_any {S : Nat → Prop} {g : Nat} {L : List Tk} {v : Value} (n : Int) (l : List Wn) (w : World) (h : LkAt w S g L) (hv : RWn w v l) (hll : l.length ≤ 1000000) :
    Calls Try.prog 13 #[.pointer (some ⟨g, 0, none⟩), .int .i64 n, v] w fun e w' => e = .returned (.tuple #[.bool (askB L n l), .int .i64 (askE L n l)]) ∧ To S w w' (lkOb g (askL L n l)) := by
  obtain ⟨A, c, rfl⟩ := hv.form
  have hX := extAl w (.cells #[.int .i64 n] 3)
  have hob : (lkOb g L).is w S := h
  by_cases hn : n < 0
  · have e : askE L n l = 1 := by unfold askE; rw [if_pos (.inl hn)]
    have e2 : askL L n l = L := by unfold askL; rw [if_neg (by omega)]
    have e3 : askB L n l = false := by unfold askB; rw [if_neg (by omega)]
    rw [e, e2, e3]
    have F := Lib.hid (To.of_ext hob hX)
    clear e e2 e3 h hv hX hob
    go_enter Try.func13, Try.ntmps13
    go_wp2
    go_ret2
    exact ⟨rfl, F.out⟩
  have W1 := Lib.hid (wrong_any _ (hv.ext hX) hll)
  cases hwr : wrongL l with
  | true =>
    have e : askE L n l = 1 := by unfold askE; rw [if_pos (.inr hwr)]
    have e2 : askL L n l = L := by unfold askL; rw [if_neg (by omega)]
    have e3 : askB L n l = false := by unfold askB; rw [if_neg (by omega)]
    rw [e, e2, e3]
    rw [hwr] at W1
    clear e e2 e3 h hv hwr
    have HO := Lib.hid hob
    clear hob
    go_enter Try.func13, Try.ntmps13
    go_wp2_with (go_at_call 50; refine W1.out.mono ?_; rintro e w2 ⟨rfl, hb2⟩)
    go_ret2
    exact ⟨rfl, To.of_ext HO.out (Ext.trans hX hb2)⟩
  | false =>
    rw [hwr] at W1
    have HO := Lib.hid hob
    have HW := Lib.hid hwr
    have HV := Lib.hid hv
    have HN := Lib.hid hn
    obtain ⟨ns, hp, hL, hh⟩ := h
    have HP := Lib.hid hp
    have HH := Lib.hid hh
    have HL := Lib.hid hL
    have b1 := Lib.hid (heap_alloc_last w (.cells #[.int .i64 n] 3))
    clear hob hwr hv hn hp hh hL
    have hn0 : 0 ≤ n := by have := HN.out; omega
    cases ht : (atL L n).isSome with
    | true =>
      have e : askE L n l = 6 := by unfold askE; rw [if_neg (by rw [HW.out]; simp; omega), if_pos ht]
      have e2 : askL L n l = L := by unfold askL; rw [if_neg (by omega)]
      have e3 : askB L n l = false := by unfold askB; rw [if_neg (by omega)]
      rw [e, e2, e3]
      have HT := Lib.hid ht
      clear e e2 e3 ht
      go_enter Try.func13, Try.ntmps13
      go_wp2_with (go_at_call 50; refine W1.out.mono ?_; rintro e w2 ⟨rfl, hb2⟩)
      have hE2 : Ext w w2 := Ext.trans hX hb2
      have hw2 := Below.size hE2
      have a1 := extAl w2 (.cells #[.int .i64 0] 3)
      have a2 := extAl (w2.alloc (.cells #[.int .i64 0] 3)) (.cells #[.pointer none] 89)
      have a3 := extAl ((w2.alloc (.cells #[.int .i64 0] 3)).alloc (.cells #[.pointer none] 89)) (.cells #[.bool false] 4)
      have q1 := (Ext.trans a2 a3).blk (heap_alloc_last w2 (.cells #[.int .i64 0] 3))
      have q2 := a3.blk (heap_alloc_last (w2.alloc (.cells #[.int .i64 0] 3)) (.cells #[.pointer none] 89))
      have q3 := heap_alloc_last ((w2.alloc (.cells #[.int .i64 0] 3)).alloc (.cells #[.pointer none] 89)) (.cells #[.bool false] 4)
      simp only [World.size_alloc] at q2 q3
      have htl : w.heap.size < w2.heap.size := by have := Below.size hb2; simp at this; omega
      have OV := Lib.hid (askOver (tb := w.heap.size) (cb := w2.heap.size) w _ HP.out (Ext.trans hE2 (Ext.trans a1 (Ext.trans a2 a3))) htl hw2 ((Ext.trans a1 (Ext.trans a2 a3)).blk (Ext.blk hb2 b1.out)) q1 q2 q3)
      rw [HL.out, any_twice] at OV
      have hln : ns.length = L.length := by rw [← HL.out]; simp
      rw [hln] at OV
      clear a1 a2 a3 q1 q2 q3 b1 hb2 W1
      refine OV.out.mono ?_
      rintro e W ⟨rfl, hW, k0, k1, k2, k3⟩
      obtain ⟨c0, -, l0⟩ := blk1 k0
      obtain ⟨c1, -, l1⟩ := blk1 k1
      obtain ⟨c2, -, l2⟩ := blk1 k2
      obtain ⟨c3, -, l3⟩ := blk1 k3
      clear k0 k1 k2 k3 OV
      have HWE := Lib.hid hW
      have HX := Lib.hid hX
      have HE2 := Lib.hid hE2
      clear hW hX hE2
      rw [HT.out] at c3
      clear c2
      go_wp2
      go_ret2
      exact ⟨rfl, To.of_ext HO.out HWE.out⟩
    | false =>
      by_cases hf : 16 ≤ L.length
      · have e : askE L n l = 3 := by unfold askE; rw [if_neg (by rw [HW.out]; simp; omega), if_neg (by rw [ht]; simp), if_pos hf]
        have e2 : askL L n l = L := by unfold askL; rw [if_neg (by omega)]
        have e3 : askB L n l = false := by unfold askB; rw [if_neg (by omega)]
        rw [e, e2, e3]
        have HT := Lib.hid ht
        clear e e2 e3 ht
        go_enter Try.func13, Try.ntmps13
        go_wp2_with (go_at_call 50; refine W1.out.mono ?_; rintro e w2 ⟨rfl, hb2⟩)
        have hE2 : Ext w w2 := Ext.trans hX hb2
        have hw2 := Below.size hE2
        have a1 := extAl w2 (.cells #[.int .i64 0] 3)
        have a2 := extAl (w2.alloc (.cells #[.int .i64 0] 3)) (.cells #[.pointer none] 89)
        have a3 := extAl ((w2.alloc (.cells #[.int .i64 0] 3)).alloc (.cells #[.pointer none] 89)) (.cells #[.bool false] 4)
        have q1 := (Ext.trans a2 a3).blk (heap_alloc_last w2 (.cells #[.int .i64 0] 3))
        have q2 := a3.blk (heap_alloc_last (w2.alloc (.cells #[.int .i64 0] 3)) (.cells #[.pointer none] 89))
        have q3 := heap_alloc_last ((w2.alloc (.cells #[.int .i64 0] 3)).alloc (.cells #[.pointer none] 89)) (.cells #[.bool false] 4)
        simp only [World.size_alloc] at q2 q3
        have htl : w.heap.size < w2.heap.size := by have := Below.size hb2; simp at this; omega
        have OV := Lib.hid (askOver (tb := w.heap.size) (cb := w2.heap.size) w _ HP.out (Ext.trans hE2 (Ext.trans a1 (Ext.trans a2 a3))) htl hw2 ((Ext.trans a1 (Ext.trans a2 a3)).blk (Ext.blk hb2 b1.out)) q1 q2 q3)
        rw [HL.out, any_twice] at OV
        have hln : ns.length = L.length := by rw [← HL.out]; simp
        rw [hln] at OV
        clear a1 a2 a3 q1 q2 q3 b1 hb2 W1
        refine OV.out.mono ?_
        rintro e W ⟨rfl, hW, k0, k1, k2, k3⟩
        obtain ⟨c0, -, l0⟩ := blk1 k0
        obtain ⟨c1, -, l1⟩ := blk1 k1
        obtain ⟨c2, -, l2⟩ := blk1 k2
        obtain ⟨c3, -, l3⟩ := blk1 k3
        clear k0 k1 k2 k3 OV
        have HWE := Lib.hid hW
        have HX := Lib.hid hX
        have HE2 := Lib.hid hE2
        clear hW hX hE2
        rw [HT.out] at c3
        clear c2
        go_wp2
        go_ret2
        exact ⟨rfl, To.of_ext HO.out HWE.out⟩
      · have e : askE L n l = 0 := by unfold askE; rw [if_neg (by rw [HW.out]; simp; omega), if_neg (by rw [ht]; simp), if_neg hf]
        have e2 : askL L n l = L ++ [(n, l)] := by unfold askL; rw [if_pos e]
        have e3 : askB L n l = mayB L l := by unfold askB; rw [if_pos e]
        rw [e, e2, e3]
        have hwl : l.length ≤ 4 := by
          have := HW.out
          unfold wrongL at this
          simp only [Bool.or_eq_false_iff, decide_eq_false_iff_not] at this
          omega
        have HT := Lib.hid ht
        clear e e2 e3 ht
        go_enter Try.func13, Try.ntmps13
        go_wp2_with (go_at_call 50; refine W1.out.mono ?_; rintro e w2 ⟨rfl, hb2⟩)
        have hE2 : Ext w w2 := Ext.trans hX hb2
        have hw2 := Below.size hE2
        have a1 := extAl w2 (.cells #[.int .i64 0] 3)
        have a2 := extAl (w2.alloc (.cells #[.int .i64 0] 3)) (.cells #[.pointer none] 89)
        have a3 := extAl ((w2.alloc (.cells #[.int .i64 0] 3)).alloc (.cells #[.pointer none] 89)) (.cells #[.bool false] 4)
        have q1 := (Ext.trans a2 a3).blk (heap_alloc_last w2 (.cells #[.int .i64 0] 3))
        have q2 := a3.blk (heap_alloc_last (w2.alloc (.cells #[.int .i64 0] 3)) (.cells #[.pointer none] 89))
        have q3 := heap_alloc_last ((w2.alloc (.cells #[.int .i64 0] 3)).alloc (.cells #[.pointer none] 89)) (.cells #[.bool false] 4)
        simp only [World.size_alloc] at q2 q3
        have htl : w.heap.size < w2.heap.size := by have := Below.size hb2; simp at this; omega
        have OV := Lib.hid (askOver (tb := w.heap.size) (cb := w2.heap.size) w _ HP.out (Ext.trans hE2 (Ext.trans a1 (Ext.trans a2 a3))) htl hw2 ((Ext.trans a1 (Ext.trans a2 a3)).blk (Ext.blk hb2 b1.out)) q1 q2 q3)
        rw [HL.out, any_twice] at OV
        have hln : ns.length = L.length := by rw [← HL.out]; simp
        rw [hln] at OV
        clear a1 a2 a3 q1 q2 q3 b1 hb2 W1
        refine OV.out.mono ?_
        rintro e W ⟨rfl, hW, k0, k1, k2, k3⟩
        obtain ⟨c0, -, l0⟩ := blk1 k0
        obtain ⟨c1, -, l1⟩ := blk1 k1
        obtain ⟨c2, -, l2⟩ := blk1 k2
        obtain ⟨c3, -, l3⟩ := blk1 k3
        clear k0 k1 k2 k3 OV
        have HWE := Lib.hid hW
        have HX := Lib.hid hX
        have HE2 := Lib.hid hE2
        clear hW hX hE2
        rw [HT.out] at c3
        have hf' : (L.length : Int) < 16 := by omega
        obtain ⟨P2, hP2⟩ := prevPtr_form ns L.length
        rw [hP2] at c2
        have HP2 := Lib.hid hP2
        clear hP2
        go_wp2
        have e0 : ∀ ψ (e : ExtP W.heap.size W ψ), e.val.cell? ⟨w.heap.size, 0, none⟩ = some (.int .i64 n) := fun ψ e => e.cell c0 l0
        refine wp_region_pieces 4  [(true, [0, 1]), (false, [2]), (true, [3])] (by kernel_rfl) (by kernel_rfl) ?_; simp only [pick, List.map_cons, List.map_nil, List.flatMap_cons, List.flatMap_nil, Option.toList_some, List.singleton_append, List.drop_succ_cons, List.drop_zero, List.getElem?_cons_zero, List.getElem?_cons_succ]
        refine ⟨by kernel_rfl, ?_⟩; apply Exists.intro; refine ⟨fun ψ hψ hne => (by (repeat (go_big_quiet_step (( fail )))); exact wpQuiet_nil rfl), ?_⟩
        intro W4 h4 K hK
        clear e0
        go_wp2_with fail
        refine (clone_wants _ ((HV.out.ext HWE.out).ext h4) (wncs_one l) (by omega)).mono ?_
        rintro e W5 ⟨v', rfl, hv', hb5⟩
        obtain ⟨A', c', rfl⟩ := hv'.form
        have HV' := Lib.hid hv'
        clear hv'
        go_wp2_with fail
        refine hK _ _ hb5 ?_
        refine ⟨by kernel_rfl, ?_⟩; apply Exists.intro; refine ⟨fun ψ hψ hne => (by (repeat (go_big_quiet_step (( fail )))); exact wpQuiet_nil rfl), ?_⟩
        intro W6 h6
        go_wp2_with fail
        have hE6 : Ext w W6 := Ext.trans HWE.out (Ext.trans h4 (Ext.trans hb5 h6))
        have hA := extAl W6 (.cells #[.int .i64 n, .slice A' l.length c', .bool false, .pointer none] 95)
        have hpa := heap_alloc_last W6 (.cells #[.int .i64 n, .slice A' l.length c', .bool false, .pointer none] 95)
        have hz6 := Below.size hE6
        have hwW := Below.size HWE.out
        have hW6 : W.heap.size ≤ W6.heap.size := Nat.le_trans (Below.size h4) (Nat.le_trans (Below.size hb5) (Below.size h6))
        have hown := (HV'.out.ext h6).ext hA
        have hxa : ∀ (i : Nat) (x : Nd), ns[i]? = some x → x.a ≠ W6.heap.size := fun i x hx => by
          have := (blk4 (HP.out.nd i x hx)).2.2.2.2.2
          omega
        have K := may_any ns.length _ (HP.out.ext (Ext.trans hE6 hA)) (⟨(blk4 hpa).2.1, hown.rr (by omega), _, hpa⟩ : PtAt _ W6.heap.size l _) hll (Nat.le_refl _) (fun j x _ hx => hxa j x hx) (fun x hx => by simp at hx)
        rw [List.take_of_length_le (by simp), HL.out] at K
        obtain ⟨b, hb⟩ : ∃ b, b = mayB L l := ⟨_, rfl⟩
        rw [← hb] at K
        have HB := Lib.hid hb
        clear hb
        refine K.mono ?_
        rintro e W7 ⟨rfl, h7⟩
        have hp7 := Ext.blk h7 hpa
        have st := Lib.hid (set4_2 (.bool b) hp7)
        have n8 := setRow_heap W7 W6.heap.size _ #[.int .i64 n, .slice A' l.length c', .bool b, .pointer none] _ _ hp7
        have hE8 : Ext w (W7.setRow W6.heap.size #[.int .i64 n, .slice A' l.length c', .bool b, .pointer none]) := below_setRow (Ext.trans (Ext.trans hE6 hA) h7) hz6 _
        have own8 := (hown.ext h7).set (row' := #[.int .i64 n, .slice A' l.length c', .bool b, .pointer none]) hp7 (by decide)
        have own4 := HV'.out
        have d2 : (W7.setRow W6.heap.size #[.int .i64 n, .slice A' l.length c', .bool b, .pointer none]).cell? ⟨w2.heap.size + 1, 0, none⟩ = some (.pointer P2) := by
          have hh : Ext W (W7.setRow W6.heap.size #[.int .i64 n, .slice A' l.length c', .bool b, .pointer none]) := below_setRow (Ext.trans (Ext.trans (Ext.trans h4 (Ext.trans hb5 h6)) hA) h7) hW6 _
          exact hh.cells1 l2 c2
        obtain ⟨p0, p1, p2, p3, pf, pl⟩ := blk4 hp7
        have hw4 := Below.size h4
        have N8 := Lib.hid n8
        have E8 := Lib.hid hE8
        have O8 := Lib.hid own8
        clear n8 hE8 own8 hown K hpa hE6 hA h7 hp7 h6 hb5 h4 c0 c1 c2 c3 own4
        go_upto_region 15 with fail
        rw [st.out]
        clear st p0 p1 p2 p3 pf pl
        generalize W7.setRow W6.heap.size #[.int .i64 n, .slice A' l.length c', .bool b, .pointer none] = V at *
        generalize hpae : W6.heap.size = pa at *
        clear hpae
        have hnew : ∀ w', w'.heap.size = V.heap.size → Hid (NewNd V (gr S w w') ns ⟨pa, .slice A' l.length c', (n, l), b⟩) := fun w' hw' => Lib.hid
          { b := N8.out
            w := O8.out.mono (Nat.zero_le _)
            s := .inr ⟨hz6, by rw [hw']; exact (Array.getElem?_eq_some_iff.1 N8.out).1⟩
            sw := fun q hq => .inr (by have := own_lt O8.out hq; rw [hw']; exact ⟨by omega, this.2⟩)
            ne := hxa
            len := by omega
            wl := hwl }
        have hhas := Lib.hid (has_snoc (nd := ⟨pa, .slice A' l.length c', (n, l), b⟩) HL.out HH.out HB.out)
        have HXA := Lib.hid hxa
        clear hxa
        cases hk : ns.length with
        | zero =>
          have e0 : ns = [] := List.length_eq_zero_iff.1 hk
          have hP2' : P2 = none := by
            have := HP2.out
            rw [← hln, hk] at this
            simpa [prevPtr] using this.symm
          subst hP2'
          subst e0
          have hg8 := (HP.out.ext E8.out).hg
          rw [ptrAt_none (by simp)] at hg8
          obtain ⟨g0, gf, gl⟩ := blk1 hg8
          have st := Lib.hid (set1_0 (.pointer (some ⟨pa, 0, none⟩)) hg8)
          have F := Lib.hid (((HP.out.ext E8.out).mono (S' := gr S w (V.setRow g #[.pointer (some ⟨pa, 0, none⟩)])) fun i hi => .inl hi).push0 (hnew _ (by simp [World.setRow])).out)
          have M := Lib.hid ((Mut.of_ext E8.out).trans (mut_setRow HP.out.sg #[.pointer (some ⟨pa, 0, none⟩)]))
          have hne : pa ≠ g := fun e => by rw [← e, N8.out] at hg8; simp at hg8
          have n9 := (setRow_other V g pa #[.pointer (some ⟨pa, 0, none⟩)] hne).trans N8.out
          obtain ⟨q0, q1, q2, q3, qf, ql⟩ := blk4 n9
          clear n9 hnew hg8 hk
          go_upto_region 18 with fail
          rw [st.out]
          clear g0 gf gl
          go_wp2
          go_ret2
          exact ⟨by rw [HB.out]; rfl, ⟨_, F.out, by rw [← HL.out]; rfl, by simpa using hhas.out⟩, M.out⟩
        | succ k =>
          obtain ⟨z, hz⟩ : ∃ z, ns[k]? = some z := ⟨_, List.getElem?_eq_getElem (by omega)⟩
          have hP2' : P2 = some ⟨z.a, 0, none⟩ := by
            have := HP2.out
            rw [← hln, hk] at this
            simp only [prevPtr, ptrAt_some hz] at this
            simpa using this.symm
          subst hP2'
          have hz8 := (HP.out.ext E8.out).nd k z hz
          rw [ptrAt_none (by omega)] at hz8
          obtain ⟨g0, g1, g2, g3, gf, gl⟩ := blk4 hz8
          have st := Lib.hid (set4_3 (.pointer (some ⟨pa, 0, none⟩)) hz8)
          have F := Lib.hid (((HP.out.ext E8.out).mono (S' := gr S w (V.setRow z.a #[.int .i64 z.p.1, z.wv, .bool z.has, .pointer (some ⟨pa, 0, none⟩)])) fun i hi => .inl hi).push1 hk hz (hnew _ (by simp [World.setRow])).out)
          have M := Lib.hid ((Mut.of_ext E8.out).trans (mut_setRow (HP.out.sa k z hz) #[.int .i64 z.p.1, z.wv, .bool z.has, .pointer (some ⟨pa, 0, none⟩)]))
          have hne : pa ≠ z.a := fun e => HXA.out k z hz e.symm
          have n9 := (setRow_other V z.a pa #[.int .i64 z.p.1, z.wv, .bool z.has, .pointer (some ⟨pa, 0, none⟩)] hne).trans N8.out
          obtain ⟨q0, q1, q2, q3, qf, ql⟩ := blk4 n9
          have HZ := Lib.hid hz
          have HK := Lib.hid hk
          clear n9 hnew hz8 hz hk
          go_upto_region 18 with fail
          rw [st.out]
          clear g0 g1 g2 g3 gf gl
          go_wp2
          go_ret2
          exact ⟨by rw [HB.out]; rfl, ⟨_, F.out, by rw [← HL.out]; simp, hhas.out⟩, M.out⟩
end Go.Proofs.Ytiihlbaajopllaa
