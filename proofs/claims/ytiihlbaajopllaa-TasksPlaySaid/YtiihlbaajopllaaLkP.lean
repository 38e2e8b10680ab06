/- Walks of locks: Copy. -/
import Derived.Test.YtiihlbaajopllaaLkO
set_option linter.unusedVariables false
set_option maxRecDepth 100000
namespace Go.Proofs.Ytiihlbaajopllaa
open Go.RowKit

theorem LkP.setRowOther {W : World} {S : Nat → Prop} {g q : Nat} {ns : List Nd} (h : LkP W S g ns) (hq : ¬ S q) (row : Array Value) : LkP (W.setRow q row) S g ns :=
  h.mutw (T := fun i => i = q) (mut_setRow (S := fun i => i = q) rfl row) fun i hi e => hq (e ▸ hi)
set_option maxHeartbeats 2000000 in
theorem copy1_0 {S : Nat → Prop} {g g' k eb B : Nat} {ns ms : List Nd} {x : Nd} (hms0 : ms = []) (W : World) (h : LkP W S g ns) (hx : ns[k]? = some x) (hB : B ≤ W.heap.size) (heB : B ≤ eb)
    (he : W.heap[eb]? = some (.cells #[.pointer (some ⟨g', 0, none⟩)] 101 (0, 0))) (hm : LkP W (fun i => B ≤ i ∧ i ≠ eb) g' ms) (hml : ms.length < 16) :
    Calls Try.prog 58 #[.pointer (some ⟨x.a, 0, none⟩), .pointer (some ⟨eb, 0, none⟩)] W fun e W' => e = .returned (.bool true) ∧ Below B W W' ∧
      ∃ nd : Nd, nd.p = x.p ∧ nd.has = x.has ∧ LkP W' (fun i => B ≤ i ∧ i ≠ eb) g' (ms ++ [nd]) ∧ W'.heap[eb]? = some (.cells #[.pointer (some ⟨nd.a, 3, none⟩)] 101 (0, 0)) := by
  have hpt := h.pt hx
  have h4 := h.wl k x hx
  obtain ⟨A, c, hwv⟩ := hpt.r.form
  obtain ⟨c0, c1, c2, c3, cf, cl⟩ := blk4 (h.nd k x hx)
  obtain ⟨b0, bf, bl⟩ := blk1 he
  rw [hwv] at c1
  have hrr := hpt.r
  rw [hwv] at hrr
  have HE := Lib.hid he
  have HM := Lib.hid hm
  have HR := Lib.hid hrr
  clear hpt hrr hwv he hm h hx
  go_enter Try.func58, Try.ntmps58
  go_wp2
  have e0 : ∀ ψ (e : ExtP W.heap.size W ψ), e.val.cell? ⟨eb, 0, none⟩ = some (.pointer (some ⟨g', 0, none⟩)) := fun ψ e => e.cell b0 bl
  have e1 : ∀ ψ (e : ExtP W.heap.size W ψ), e.val.cell? ⟨x.a, 0, none⟩ = some (.int .i64 x.p.1) := fun ψ e => e.cell c0 cl
  have e2 : ∀ ψ (e : ExtP W.heap.size W ψ), e.val.cell? ⟨x.a, 1, none⟩ = some (.slice A x.p.2.length c) := fun ψ e => e.cell c1 cl
  have e3 : ∀ ψ (e : ExtP W.heap.size W ψ), e.val.cell? ⟨x.a, 2, none⟩ = some (.bool x.has) := fun ψ e => e.cell c2 cl
  refine wp_region_pieces 16  [(true, [0, 1, 2, 3, 4, 5, 6, 7, 8, 10, 11, 12, 13]), (false, [9]), (true, [14]), (false, [15])] (by kernel_rfl) (by kernel_rfl) ?_; simp only [pick, List.map_cons, List.map_nil, List.flatMap_cons, List.flatMap_nil, Option.toList_some, List.singleton_append, List.drop_succ_cons, List.drop_zero, List.getElem?_cons_zero, List.getElem?_cons_succ]
  refine ⟨by kernel_rfl, ?_⟩; apply Exists.intro; refine ⟨fun ψ hψ hne => (by (repeat (go_big_quiet_step (( fail )))); exact wpQuiet_nil rfl), ?_⟩
  intro W0 h0 K hK
  clear e0 e1 e2 e3
  go_wp2_with fail
  refine (clone_wants _ (HR.out.ext h0) (wncs_one _) (by omega)).mono ?_
  rintro e W1 ⟨v', rfl, hv', hb1⟩
  obtain ⟨A', c', rfl⟩ := hv'.form
  have HV' := Lib.hid hv'
  clear hv'
  go_wp2_with fail
  refine hK _ _ hb1 ?_
  refine ⟨by kernel_rfl, ?_⟩; apply Exists.intro; refine ⟨fun ψ hψ hne => (by (repeat (go_big_quiet_step (( fail )))); exact wpQuiet_nil rfl), ?_⟩
  intro W2 h2 K hK
  go_wp2_with fail
  refine hK _ _ (extAl _ _) ?_
  intro W3 h3
  have hA := extAl W2 (.cells #[.int .i64 x.p.1, .slice A' x.p.2.length c', .bool x.has, .pointer none] 95)
  have E2 : Ext W W2 := Ext.trans h0 (Ext.trans hb1 h2)
  have E3 : Ext W W3 := Ext.trans E2 (Ext.trans hA h3)
  have hz2 := Below.size E2
  have hz0 := Below.size h0
  have hpa := Ext.blk h3 (heap_alloc_last W2 (.cells #[.int .i64 x.p.1, .slice A' x.p.2.length c', .bool x.has, .pointer none] 95))
  have hown := (HV'.out.ext h2).ext (Ext.trans hA h3)
  have hm3 := HM.out.ext E3
  have he3 := Ext.blk E3 HE.out
  have hnew : NewNd W3 (fun i => B ≤ i ∧ i ≠ eb) ms ⟨W2.heap.size, .slice A' x.p.2.length c', x.p, x.has⟩ :=
    { b := hpa
      w := hown.mono (Nat.zero_le _)
      s := (⟨by omega, by omega⟩ : B ≤ W2.heap.size ∧ W2.heap.size ≠ eb)
      sw := fun q hq => by have := own_lt hown hq; exact ⟨by omega, by omega⟩
      ne := fun i y hy => by
        have := (blk4 (HM.out.nd i y hy)).2.2.2.2.2
        show y.a ≠ W2.heap.size
        omega
      len := hml
      wl := h4 }
  obtain rfl := hms0
  have hg3 := hm3.hg
  rw [ptrAt_none (by simp)] at hg3
  have st := Lib.hid (set1_0 (.pointer (some ⟨W2.heap.size, 0, none⟩)) hg3)
  obtain ⟨g0, gf, gl⟩ := blk1 hg3
  have hF := hm3.push0 hnew
  have hne : eb ≠ g' := fun e => hm3.sg.2 e.symm
  have heV := (setRow_other W3 g' eb #[.pointer (some ⟨W2.heap.size, 0, none⟩)] hne).trans he3
  have hBV := below_setRow (Below.mono E3 hB) hm3.sg.1 #[.pointer (some ⟨W2.heap.size, 0, none⟩)]
  have hsV := (blk1 (setRow_heap W3 g' _ #[.pointer (some ⟨W2.heap.size, 0, none⟩)] _ _ hg3)).1
  go_upto_region 2 with fail
  rw [st.out]
  clear st g0 gf gl hg3
  obtain ⟨V, hV⟩ : ∃ V, V = W3.setRow g' #[.pointer (some ⟨W2.heap.size, 0, none⟩)] := ⟨_, rfl⟩
  rw [← hV] at hF heV hBV hsV ⊢
  clear hV
  generalize hpae : W2.heap.size = pa at *
  have hS : ¬ (B ≤ eb ∧ eb ≠ eb) := fun h => h.2 rfl
  have F1 := Lib.hid (hF.setRowOther hS #[.pointer (some ⟨pa, 3, none⟩)])
  have F2 := Lib.hid (setRow_heap V eb _ #[.pointer (some ⟨pa, 3, none⟩)] _ _ heV)
  have F3 := Lib.hid (below_setRow (hBV) heB #[.pointer (some ⟨pa, 3, none⟩)])
  have st2 := Lib.hid (set1_0 (.pointer (some ⟨pa, 3, none⟩)) heV)
  obtain ⟨v0, vf, vl⟩ := blk1 heV
  clear hF heV hBV hpae hnew hown hm3 he3 hpa hA E2 E3 h3 h2 hb1 h0 c0 c1 c2 c3 cf cl b0 bf bl
  go_upto_region 3 with fail
  rw [st2.out]
  go_wp2
  go_ret
  exact ⟨rfl, F3.out, ⟨pa, .slice A' x.p.2.length c', x.p, x.has⟩, rfl, rfl, F1.out, F2.out⟩
set_option maxHeartbeats 2000000 in
theorem copy1_s {S : Nat → Prop} {g g' k eb B : Nat} {ns ms : List Nd} {x : Nd} {z : Nd} {j : Nat} (hmk : ms.length = j + 1) (hz : ms[j]? = some z) (W : World) (h : LkP W S g ns) (hx : ns[k]? = some x) (hB : B ≤ W.heap.size) (heB : B ≤ eb)
    (he : W.heap[eb]? = some (.cells #[.pointer (some ⟨z.a, 3, none⟩)] 101 (0, 0))) (hm : LkP W (fun i => B ≤ i ∧ i ≠ eb) g' ms) (hml : ms.length < 16) :
    Calls Try.prog 58 #[.pointer (some ⟨x.a, 0, none⟩), .pointer (some ⟨eb, 0, none⟩)] W fun e W' => e = .returned (.bool true) ∧ Below B W W' ∧
      ∃ nd : Nd, nd.p = x.p ∧ nd.has = x.has ∧ LkP W' (fun i => B ≤ i ∧ i ≠ eb) g' (ms ++ [nd]) ∧ W'.heap[eb]? = some (.cells #[.pointer (some ⟨nd.a, 3, none⟩)] 101 (0, 0)) := by
  have hpt := h.pt hx
  have h4 := h.wl k x hx
  obtain ⟨A, c, hwv⟩ := hpt.r.form
  obtain ⟨c0, c1, c2, c3, cf, cl⟩ := blk4 (h.nd k x hx)
  obtain ⟨b0, bf, bl⟩ := blk1 he
  rw [hwv] at c1
  have hrr := hpt.r
  rw [hwv] at hrr
  have HE := Lib.hid he
  have HM := Lib.hid hm
  have HR := Lib.hid hrr
  clear hpt hrr hwv he hm h hx
  go_enter Try.func58, Try.ntmps58
  go_wp2
  have e0 : ∀ ψ (e : ExtP W.heap.size W ψ), e.val.cell? ⟨eb, 0, none⟩ = some (.pointer (some ⟨z.a, 3, none⟩)) := fun ψ e => e.cell b0 bl
  have e1 : ∀ ψ (e : ExtP W.heap.size W ψ), e.val.cell? ⟨x.a, 0, none⟩ = some (.int .i64 x.p.1) := fun ψ e => e.cell c0 cl
  have e2 : ∀ ψ (e : ExtP W.heap.size W ψ), e.val.cell? ⟨x.a, 1, none⟩ = some (.slice A x.p.2.length c) := fun ψ e => e.cell c1 cl
  have e3 : ∀ ψ (e : ExtP W.heap.size W ψ), e.val.cell? ⟨x.a, 2, none⟩ = some (.bool x.has) := fun ψ e => e.cell c2 cl
  refine wp_region_pieces 16  [(true, [0, 1, 2, 3, 4, 5, 6, 7, 8, 10, 11, 12, 13]), (false, [9]), (true, [14]), (false, [15])] (by kernel_rfl) (by kernel_rfl) ?_; simp only [pick, List.map_cons, List.map_nil, List.flatMap_cons, List.flatMap_nil, Option.toList_some, List.singleton_append, List.drop_succ_cons, List.drop_zero, List.getElem?_cons_zero, List.getElem?_cons_succ]
  refine ⟨by kernel_rfl, ?_⟩; apply Exists.intro; refine ⟨fun ψ hψ hne => (by (repeat (go_big_quiet_step (( fail )))); exact wpQuiet_nil rfl), ?_⟩
  intro W0 h0 K hK
  clear e0 e1 e2 e3
  go_wp2_with fail
  refine (clone_wants _ (HR.out.ext h0) (wncs_one _) (by omega)).mono ?_
  rintro e W1 ⟨v', rfl, hv', hb1⟩
  obtain ⟨A', c', rfl⟩ := hv'.form
  have HV' := Lib.hid hv'
  clear hv'
  go_wp2_with fail
  refine hK _ _ hb1 ?_
  refine ⟨by kernel_rfl, ?_⟩; apply Exists.intro; refine ⟨fun ψ hψ hne => (by (repeat (go_big_quiet_step (( fail )))); exact wpQuiet_nil rfl), ?_⟩
  intro W2 h2 K hK
  go_wp2_with fail
  refine hK _ _ (extAl _ _) ?_
  intro W3 h3
  have hA := extAl W2 (.cells #[.int .i64 x.p.1, .slice A' x.p.2.length c', .bool x.has, .pointer none] 95)
  have E2 : Ext W W2 := Ext.trans h0 (Ext.trans hb1 h2)
  have E3 : Ext W W3 := Ext.trans E2 (Ext.trans hA h3)
  have hz2 := Below.size E2
  have hz0 := Below.size h0
  have hpa := Ext.blk h3 (heap_alloc_last W2 (.cells #[.int .i64 x.p.1, .slice A' x.p.2.length c', .bool x.has, .pointer none] 95))
  have hown := (HV'.out.ext h2).ext (Ext.trans hA h3)
  have hm3 := HM.out.ext E3
  have he3 := Ext.blk E3 HE.out
  have hnew : NewNd W3 (fun i => B ≤ i ∧ i ≠ eb) ms ⟨W2.heap.size, .slice A' x.p.2.length c', x.p, x.has⟩ :=
    { b := hpa
      w := hown.mono (Nat.zero_le _)
      s := (⟨by omega, by omega⟩ : B ≤ W2.heap.size ∧ W2.heap.size ≠ eb)
      sw := fun q hq => by have := own_lt hown hq; exact ⟨by omega, by omega⟩
      ne := fun i y hy => by
        have := (blk4 (HM.out.nd i y hy)).2.2.2.2.2
        show y.a ≠ W2.heap.size
        omega
      len := hml
      wl := h4 }
  have hz3 := hm3.nd _ z hz
  rw [ptrAt_none (by omega)] at hz3
  have st := Lib.hid (set4_3 (.pointer (some ⟨W2.heap.size, 0, none⟩)) hz3)
  obtain ⟨g0, g1, g2, g3, gf, gl⟩ := blk4 hz3
  have hF := hm3.push1 hmk hz hnew
  have hne : eb ≠ z.a := fun e => (hm3.sa _ z hz).2 e.symm
  have heV := (setRow_other W3 z.a eb #[.int .i64 z.p.1, z.wv, .bool z.has, .pointer (some ⟨W2.heap.size, 0, none⟩)] hne).trans he3
  have hBV := below_setRow (Below.mono E3 hB) (hm3.sa _ z hz).1 #[.int .i64 z.p.1, z.wv, .bool z.has, .pointer (some ⟨W2.heap.size, 0, none⟩)]
  have hsV := (blk4 (setRow_heap W3 z.a _ #[.int .i64 z.p.1, z.wv, .bool z.has, .pointer (some ⟨W2.heap.size, 0, none⟩)] _ _ hz3)).2.2.2.1
  go_upto_region 2 with fail
  rw [st.out]
  clear st g0 g1 g2 g3 gf gl hz3
  obtain ⟨V, hV⟩ : ∃ V, V = W3.setRow z.a #[.int .i64 z.p.1, z.wv, .bool z.has, .pointer (some ⟨W2.heap.size, 0, none⟩)] := ⟨_, rfl⟩
  rw [← hV] at hF heV hBV hsV ⊢
  clear hV
  generalize hpae : W2.heap.size = pa at *
  have hS : ¬ (B ≤ eb ∧ eb ≠ eb) := fun h => h.2 rfl
  have F1 := Lib.hid (hF.setRowOther hS #[.pointer (some ⟨pa, 3, none⟩)])
  have F2 := Lib.hid (setRow_heap V eb _ #[.pointer (some ⟨pa, 3, none⟩)] _ _ heV)
  have F3 := Lib.hid (below_setRow (hBV) heB #[.pointer (some ⟨pa, 3, none⟩)])
  have st2 := Lib.hid (set1_0 (.pointer (some ⟨pa, 3, none⟩)) heV)
  obtain ⟨v0, vf, vl⟩ := blk1 heV
  clear hF heV hBV hpae hnew hown hm3 he3 hpa hA E2 E3 h3 h2 hb1 h0 c0 c1 c2 c3 cf cl b0 bf bl
  go_upto_region 3 with fail
  rw [st2.out]
  go_wp2
  go_ret
  exact ⟨rfl, F3.out, ⟨pa, .slice A' x.p.2.length c', x.p, x.has⟩, rfl, rfl, F1.out, F2.out⟩
end Go.Proofs.Ytiihlbaajopllaa
