/- Walks of locks: Ask. -/
import Derived.Test.YtiihlbaajopllaaLkI
set_option linter.unusedVariables false
set_option maxRecDepth 100000
namespace Go.Proofs.Ytiihlbaajopllaa
open Go.RowKit

set_option maxHeartbeats 1000000 in
theorem ask1_t {a tb cb : Nat} {m n c : Int} {vl : Value} (W : World) (hmn : True) (hc0 : 0 ≤ c) (hc1 : c ≤ 1000) (had : a < cb) (htd : tb < cb) (hm : W.cell? ⟨a, 0, none⟩ = some (.int .i64 m))
    (ht : W.heap[tb]? = some (.cells #[.int .i64 n] 3 (0, 0))) (hc : W.heap[cb]? = some (.cells #[.int .i64 c] 3 (0, 0))) (hl : W.heap[cb + 1]? = some (.cells #[vl] 89 (0, 0))) (hw : W.heap[cb + 1 + 1]? = some (.cells #[.bool true] 4 (0, 0))) :
    Calls Try.prog 52 #[.pointer (some ⟨a, 0, none⟩), .pointer (some ⟨cb, 0, none⟩), .pointer (some ⟨cb + 1, 0, none⟩), .pointer (some ⟨cb + 1 + 1, 0, none⟩), .pointer (some ⟨tb, 0, none⟩)] W fun e W' =>
      e = .returned (.bool true) ∧ Below cb W W' ∧ W'.heap[cb]? = some (.cells #[.int .i64 (c + 1)] 3 (0, 0)) ∧ W'.heap[cb + 1]? = some (.cells #[.pointer (some ⟨a, 0, none⟩)] 89 (0, 0)) ∧ W'.heap[cb + 1 + 1]? = some (.cells #[.bool true] 4 (0, 0)) := by
  clear hmn
  have st1 := set1_0 (.int .i64 (c + 1)) hc
  have hc2 := setRow_heap W cb _ #[.int .i64 (c + 1)] _ _ hc
  have hl2 := (setRow_other W cb (cb + 1) #[.int .i64 (c + 1)] (by omega)).trans hl
  have hw2 := (setRow_other W cb (cb + 1 + 1) #[.int .i64 (c + 1)] (by omega)).trans hw
  have ht2 := (setRow_other W cb tb #[.int .i64 (c + 1)] (by omega)).trans ht
  have hB2 : Below cb W (W.setRow cb #[.int .i64 (c + 1)]) := below_setRow (Below.refl _ _) (Nat.le_refl _) _
  have st2 := set1_0 (.pointer (some ⟨a, 0, none⟩)) hl2
  have hc3 := (setRow_other _ (cb + 1) cb #[.pointer (some ⟨a, 0, none⟩)] (by omega)).trans hc2
  have hl3 := setRow_heap _ (cb + 1) _ #[.pointer (some ⟨a, 0, none⟩)] _ _ hl2
  have hw3 := (setRow_other _ (cb + 1) (cb + 1 + 1) #[.pointer (some ⟨a, 0, none⟩)] (by omega)).trans hw2
  have ht3 := (setRow_other _ (cb + 1) tb #[.pointer (some ⟨a, 0, none⟩)] (by omega)).trans ht2
  have hB3 := below_setRow hB2 (show cb ≤ cb + 1 by omega) #[.pointer (some ⟨a, 0, none⟩)]
  have hm3 := (hB3.cell (p := ⟨a, 0, none⟩) had).trans hm
  obtain ⟨d0, f0, l0⟩ := blk1 hc
  obtain ⟨d1, f1, l1⟩ := blk1 hl2
  clear hc2 hl2 hw2 ht2 hB2 hc hl hw ht hm
  have ST1 := Lib.hid st1
  have ST2 := Lib.hid st2
  have HC := Lib.hid hc3
  have HL := Lib.hid hl3
  have HB := Lib.hid hB3
  clear st1 st2 hc3 hl3 hB3
  go_enter Try.func52, Try.ntmps52
  go_upto_region 2 with fail
  rw [ST1.out]
  go_upto_region 3 with fail
  rw [ST2.out]
  clear ST1 ST2 d0 f0 l0 d1 f1 l1
  generalize (W.setRow cb #[.int .i64 (c + 1)]).setRow (cb + 1) #[.pointer (some ⟨a, 0, none⟩)] = V at *
  obtain ⟨w0, fw, lw⟩ := blk1 hw3
  obtain ⟨t0, ft, lt⟩ := blk1 ht3
  have la : a < V.heap.size := by omega
  have HW := Lib.hid hw3
  clear hw3 ht3 fw ft
  have e0 : ∀ ψ (e : ExtP V.heap.size V ψ), e.val.cell? ⟨cb + 1 + 1, 0, none⟩ = some (.bool true) := fun ψ e => e.cell w0 lw
  have e1 : ∀ ψ (e : ExtP V.heap.size V ψ), e.val.cell? ⟨tb, 0, none⟩ = some (.int .i64 n) := fun ψ e => e.cell t0 lt
  have e2 := fun (ψ : World → Prop) (e : ExtP V.heap.size V ψ) => e.cell hm3 la
  refine wp_region_pieces 9  [(true, [0, 1, 2, 3, 4, 5, 6, 7, 8])] (by kernel_rfl) (by kernel_rfl) ?_; simp only [pick, List.map_cons, List.map_nil, List.flatMap_cons, List.flatMap_nil, Option.toList_some, List.singleton_append, List.drop_succ_cons, List.drop_zero, List.getElem?_cons_zero, List.getElem?_cons_succ]
  refine ⟨by kernel_rfl, ?_⟩; apply Exists.intro; refine ⟨fun ψ hψ hne => (by (repeat (go_big_quiet_step (( fail )))); exact wpQuiet_nil rfl), ?_⟩
  intro W1 h1
  clear e0 e1 e2 w0 t0 hm3
  have hw1 := Ext.blk h1 HW.out
  obtain ⟨d0, f0, l0⟩ := blk1 hw1
  have st := Lib.hid (set1_0 (.bool true) hw1)
  have K0 := Lib.hid ((setRow_other W1 (cb + 1 + 1) cb #[.bool true] (by omega)).trans (Ext.blk h1 HC.out))
  have K1 := Lib.hid ((setRow_other W1 (cb + 1 + 1) (cb + 1) #[.bool true] (by omega)).trans (Ext.blk h1 HL.out))
  have K2 := Lib.hid (setRow_heap W1 (cb + 1 + 1) _ #[.bool true] _ _ hw1)
  have KB := Lib.hid (below_setRow (Below.trans HB.out (Below.mono h1 (by omega))) (show cb ≤ cb + 1 + 1 by omega) #[.bool true])
  clear hw1 h1
  go_upto_region 4 with fail
  rw [st.out]
  go_wp2
  go_ret
  exact ⟨rfl, KB.out, K0.out, K1.out, K2.out⟩
set_option maxHeartbeats 1000000 in
theorem ask1_y {a tb cb : Nat} {m n c : Int} {vl : Value} (W : World) (hmn : m = n) (hc0 : 0 ≤ c) (hc1 : c ≤ 1000) (had : a < cb) (htd : tb < cb) (hm : W.cell? ⟨a, 0, none⟩ = some (.int .i64 m))
    (ht : W.heap[tb]? = some (.cells #[.int .i64 n] 3 (0, 0))) (hc : W.heap[cb]? = some (.cells #[.int .i64 c] 3 (0, 0))) (hl : W.heap[cb + 1]? = some (.cells #[vl] 89 (0, 0))) (hw : W.heap[cb + 1 + 1]? = some (.cells #[.bool false] 4 (0, 0))) :
    Calls Try.prog 52 #[.pointer (some ⟨a, 0, none⟩), .pointer (some ⟨cb, 0, none⟩), .pointer (some ⟨cb + 1, 0, none⟩), .pointer (some ⟨cb + 1 + 1, 0, none⟩), .pointer (some ⟨tb, 0, none⟩)] W fun e W' =>
      e = .returned (.bool true) ∧ Below cb W W' ∧ W'.heap[cb]? = some (.cells #[.int .i64 (c + 1)] 3 (0, 0)) ∧ W'.heap[cb + 1]? = some (.cells #[.pointer (some ⟨a, 0, none⟩)] 89 (0, 0)) ∧ W'.heap[cb + 1 + 1]? = some (.cells #[.bool true] 4 (0, 0)) := by
  obtain rfl := hmn.symm
  have st1 := set1_0 (.int .i64 (c + 1)) hc
  have hc2 := setRow_heap W cb _ #[.int .i64 (c + 1)] _ _ hc
  have hl2 := (setRow_other W cb (cb + 1) #[.int .i64 (c + 1)] (by omega)).trans hl
  have hw2 := (setRow_other W cb (cb + 1 + 1) #[.int .i64 (c + 1)] (by omega)).trans hw
  have ht2 := (setRow_other W cb tb #[.int .i64 (c + 1)] (by omega)).trans ht
  have hB2 : Below cb W (W.setRow cb #[.int .i64 (c + 1)]) := below_setRow (Below.refl _ _) (Nat.le_refl _) _
  have st2 := set1_0 (.pointer (some ⟨a, 0, none⟩)) hl2
  have hc3 := (setRow_other _ (cb + 1) cb #[.pointer (some ⟨a, 0, none⟩)] (by omega)).trans hc2
  have hl3 := setRow_heap _ (cb + 1) _ #[.pointer (some ⟨a, 0, none⟩)] _ _ hl2
  have hw3 := (setRow_other _ (cb + 1) (cb + 1 + 1) #[.pointer (some ⟨a, 0, none⟩)] (by omega)).trans hw2
  have ht3 := (setRow_other _ (cb + 1) tb #[.pointer (some ⟨a, 0, none⟩)] (by omega)).trans ht2
  have hB3 := below_setRow hB2 (show cb ≤ cb + 1 by omega) #[.pointer (some ⟨a, 0, none⟩)]
  have hm3 := (hB3.cell (p := ⟨a, 0, none⟩) had).trans hm
  obtain ⟨d0, f0, l0⟩ := blk1 hc
  obtain ⟨d1, f1, l1⟩ := blk1 hl2
  clear hc2 hl2 hw2 ht2 hB2 hc hl hw ht hm
  have ST1 := Lib.hid st1
  have ST2 := Lib.hid st2
  have HC := Lib.hid hc3
  have HL := Lib.hid hl3
  have HB := Lib.hid hB3
  clear st1 st2 hc3 hl3 hB3
  go_enter Try.func52, Try.ntmps52
  go_upto_region 2 with fail
  rw [ST1.out]
  go_upto_region 3 with fail
  rw [ST2.out]
  clear ST1 ST2 d0 f0 l0 d1 f1 l1
  generalize (W.setRow cb #[.int .i64 (c + 1)]).setRow (cb + 1) #[.pointer (some ⟨a, 0, none⟩)] = V at *
  obtain ⟨w0, fw, lw⟩ := blk1 hw3
  obtain ⟨t0, ft, lt⟩ := blk1 ht3
  have la : a < V.heap.size := by omega
  have HW := Lib.hid hw3
  clear hw3 ht3 fw ft
  have e0 : ∀ ψ (e : ExtP V.heap.size V ψ), e.val.cell? ⟨cb + 1 + 1, 0, none⟩ = some (.bool false) := fun ψ e => e.cell w0 lw
  have e1 : ∀ ψ (e : ExtP V.heap.size V ψ), e.val.cell? ⟨tb, 0, none⟩ = some (.int .i64 n) := fun ψ e => e.cell t0 lt
  have e2 := fun (ψ : World → Prop) (e : ExtP V.heap.size V ψ) => e.cell hm3 la
  refine wp_region_pieces 9  [(true, [0, 1, 2, 3, 4, 5, 6, 7, 8])] (by kernel_rfl) (by kernel_rfl) ?_; simp only [pick, List.map_cons, List.map_nil, List.flatMap_cons, List.flatMap_nil, Option.toList_some, List.singleton_append, List.drop_succ_cons, List.drop_zero, List.getElem?_cons_zero, List.getElem?_cons_succ]
  refine ⟨by kernel_rfl, ?_⟩; apply Exists.intro; refine ⟨fun ψ hψ hne => (by (repeat (go_big_quiet_step (( fail )))); exact wpQuiet_nil rfl), ?_⟩
  intro W1 h1
  clear e0 e1 e2 w0 t0 hm3
  have hw1 := Ext.blk h1 HW.out
  obtain ⟨d0, f0, l0⟩ := blk1 hw1
  have st := Lib.hid (set1_0 (.bool true) hw1)
  have K0 := Lib.hid ((setRow_other W1 (cb + 1 + 1) cb #[.bool true] (by omega)).trans (Ext.blk h1 HC.out))
  have K1 := Lib.hid ((setRow_other W1 (cb + 1 + 1) (cb + 1) #[.bool true] (by omega)).trans (Ext.blk h1 HL.out))
  have K2 := Lib.hid (setRow_heap W1 (cb + 1 + 1) _ #[.bool true] _ _ hw1)
  have KB := Lib.hid (below_setRow (Below.trans HB.out (Below.mono h1 (by omega))) (show cb ≤ cb + 1 + 1 by omega) #[.bool true])
  clear hw1 h1
  go_upto_region 4 with fail
  rw [st.out]
  go_wp2
  go_ret
  exact ⟨rfl, KB.out, K0.out, K1.out, K2.out⟩
set_option maxHeartbeats 1000000 in
theorem ask1_n {a tb cb : Nat} {m n c : Int} {vl : Value} (W : World) (hmn : ¬ m = n) (hc0 : 0 ≤ c) (hc1 : c ≤ 1000) (had : a < cb) (htd : tb < cb) (hm : W.cell? ⟨a, 0, none⟩ = some (.int .i64 m))
    (ht : W.heap[tb]? = some (.cells #[.int .i64 n] 3 (0, 0))) (hc : W.heap[cb]? = some (.cells #[.int .i64 c] 3 (0, 0))) (hl : W.heap[cb + 1]? = some (.cells #[vl] 89 (0, 0))) (hw : W.heap[cb + 1 + 1]? = some (.cells #[.bool false] 4 (0, 0))) :
    Calls Try.prog 52 #[.pointer (some ⟨a, 0, none⟩), .pointer (some ⟨cb, 0, none⟩), .pointer (some ⟨cb + 1, 0, none⟩), .pointer (some ⟨cb + 1 + 1, 0, none⟩), .pointer (some ⟨tb, 0, none⟩)] W fun e W' =>
      e = .returned (.bool true) ∧ Below cb W W' ∧ W'.heap[cb]? = some (.cells #[.int .i64 (c + 1)] 3 (0, 0)) ∧ W'.heap[cb + 1]? = some (.cells #[.pointer (some ⟨a, 0, none⟩)] 89 (0, 0)) ∧ W'.heap[cb + 1 + 1]? = some (.cells #[.bool false] 4 (0, 0)) := by
  have hmq : (m == n) = false := by rw [beq_eq_false_iff_ne]; exact hmn
  clear hmn
  have st1 := set1_0 (.int .i64 (c + 1)) hc
  have hc2 := setRow_heap W cb _ #[.int .i64 (c + 1)] _ _ hc
  have hl2 := (setRow_other W cb (cb + 1) #[.int .i64 (c + 1)] (by omega)).trans hl
  have hw2 := (setRow_other W cb (cb + 1 + 1) #[.int .i64 (c + 1)] (by omega)).trans hw
  have ht2 := (setRow_other W cb tb #[.int .i64 (c + 1)] (by omega)).trans ht
  have hB2 : Below cb W (W.setRow cb #[.int .i64 (c + 1)]) := below_setRow (Below.refl _ _) (Nat.le_refl _) _
  have st2 := set1_0 (.pointer (some ⟨a, 0, none⟩)) hl2
  have hc3 := (setRow_other _ (cb + 1) cb #[.pointer (some ⟨a, 0, none⟩)] (by omega)).trans hc2
  have hl3 := setRow_heap _ (cb + 1) _ #[.pointer (some ⟨a, 0, none⟩)] _ _ hl2
  have hw3 := (setRow_other _ (cb + 1) (cb + 1 + 1) #[.pointer (some ⟨a, 0, none⟩)] (by omega)).trans hw2
  have ht3 := (setRow_other _ (cb + 1) tb #[.pointer (some ⟨a, 0, none⟩)] (by omega)).trans ht2
  have hB3 := below_setRow hB2 (show cb ≤ cb + 1 by omega) #[.pointer (some ⟨a, 0, none⟩)]
  have hm3 := (hB3.cell (p := ⟨a, 0, none⟩) had).trans hm
  obtain ⟨d0, f0, l0⟩ := blk1 hc
  obtain ⟨d1, f1, l1⟩ := blk1 hl2
  clear hc2 hl2 hw2 ht2 hB2 hc hl hw ht hm
  have ST1 := Lib.hid st1
  have ST2 := Lib.hid st2
  have HC := Lib.hid hc3
  have HL := Lib.hid hl3
  have HB := Lib.hid hB3
  clear st1 st2 hc3 hl3 hB3
  go_enter Try.func52, Try.ntmps52
  go_upto_region 2 with fail
  rw [ST1.out]
  go_upto_region 3 with fail
  rw [ST2.out]
  clear ST1 ST2 d0 f0 l0 d1 f1 l1
  generalize (W.setRow cb #[.int .i64 (c + 1)]).setRow (cb + 1) #[.pointer (some ⟨a, 0, none⟩)] = V at *
  obtain ⟨w0, fw, lw⟩ := blk1 hw3
  obtain ⟨t0, ft, lt⟩ := blk1 ht3
  have la : a < V.heap.size := by omega
  have HW := Lib.hid hw3
  clear hw3 ht3 fw ft
  have e0 : ∀ ψ (e : ExtP V.heap.size V ψ), e.val.cell? ⟨cb + 1 + 1, 0, none⟩ = some (.bool false) := fun ψ e => e.cell w0 lw
  have e1 : ∀ ψ (e : ExtP V.heap.size V ψ), e.val.cell? ⟨tb, 0, none⟩ = some (.int .i64 n) := fun ψ e => e.cell t0 lt
  have e2 := fun (ψ : World → Prop) (e : ExtP V.heap.size V ψ) => e.cell hm3 la
  refine wp_region_pieces 9  [(true, [0, 1, 2, 3, 4, 5, 6, 7, 8])] (by kernel_rfl) (by kernel_rfl) ?_; simp only [pick, List.map_cons, List.map_nil, List.flatMap_cons, List.flatMap_nil, Option.toList_some, List.singleton_append, List.drop_succ_cons, List.drop_zero, List.getElem?_cons_zero, List.getElem?_cons_succ]
  refine ⟨by kernel_rfl, ?_⟩; apply Exists.intro; refine ⟨fun ψ hψ hne => (by (repeat (go_big_quiet_step (( fail )))); exact wpQuiet_nil rfl), ?_⟩
  intro W1 h1
  clear e0 e1 e2 w0 t0 hm3
  have hw1 := Ext.blk h1 HW.out
  obtain ⟨d0, f0, l0⟩ := blk1 hw1
  have st := Lib.hid (set1_0 (.bool false) hw1)
  have K0 := Lib.hid ((setRow_other W1 (cb + 1 + 1) cb #[.bool false] (by omega)).trans (Ext.blk h1 HC.out))
  have K1 := Lib.hid ((setRow_other W1 (cb + 1 + 1) (cb + 1) #[.bool false] (by omega)).trans (Ext.blk h1 HL.out))
  have K2 := Lib.hid (setRow_heap W1 (cb + 1 + 1) _ #[.bool false] _ _ hw1)
  have KB := Lib.hid (below_setRow (Below.trans HB.out (Below.mono h1 (by omega))) (show cb ≤ cb + 1 + 1 by omega) #[.bool false])
  clear hw1 h1
  go_upto_region 4 with fail
  rw [st.out]
  go_wp2
  go_ret
  exact ⟨rfl, KB.out, K0.out, K1.out, K2.out⟩
end Go.Proofs.Ytiihlbaajopllaa
