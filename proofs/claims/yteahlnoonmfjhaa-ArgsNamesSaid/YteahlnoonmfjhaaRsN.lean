/- Results: Same of the same. -/
import Derived.Test.YteahlnoonmfjhaaRsF
set_option linter.unusedVariables false
set_option maxRecDepth 100000
namespace Go.Proofs.Yteahlnoonmfjhaa
open Go.RowKit

theorem neq_h3s (a b c : Int) (w : World) : (binOp .neq 32 (.agg #[.int .i64 a, .int .i64 b, .int .i64 c]) (.agg #[.int .i64 a, .int .i64 b, .int .i64 c])).run Try.prog w = .ok (.bool false) w := by
  go_simp
theorem neq_at8s (k a b c d e f g : Int) (w : World) : (binOp .neq 38 (.agg #[.int .u8 k, .int .i64 a, .int .i64 b, .int .i64 c, .int .i64 d, .int .i64 e, .int .i64 f, .int .i64 g]) (.agg #[.int .u8 k, .int .i64 a, .int .i64 b, .int .i64 c, .int .i64 d, .int .i64 e, .int .i64 f, .int .i64 g])).run Try.prog w = .ok (.bool false) w := by
  go_simp
theorem neq_en3s (s : ByteArray) (a b : Int) (w : World) : (binOp .neq 66 (.agg #[.string s, .int .i64 a, .int .i64 b]) (.agg #[.string s, .int .i64 a, .int .i64 b])).run Try.prog w = .ok (.bool false) w := by
  go_simp
attribute [local go_sem ↓] neq_h3s neq_at8s neq_en3s
theorem rs_cells2 {w : World} {g : Nat} {T : TypeId} {fr : Nat × Nat} {x : RsT} {v : Value} (h : w.heap[g]? = some (.cells (rsC x v).toArray T fr)) :
    w.cell? ⟨g, 0, none⟩ = some (.int .i64 x.e) ∧ w.cell? ⟨g, 1, none⟩ = some (.int .i64 x.h.1) ∧ w.cell? ⟨g, 2, none⟩ = some (.int .i64 x.h.2.1) ∧ w.cell? ⟨g, 3, none⟩ = some (.int .i64 x.h.2.2) ∧
    w.cell? ⟨g, 4, none⟩ = some (.int .u8 x.at_.kind) ∧ w.cell? ⟨g, 5, none⟩ = some (.int .i64 x.at_.mode) ∧ w.cell? ⟨g, 6, none⟩ = some (.int .i64 x.at_.links) ∧ w.cell? ⟨g, 7, none⟩ = some (.int .i64 x.at_.size) ∧ w.cell? ⟨g, 8, none⟩ = some (.int .i64 x.at_.mtime) ∧ w.cell? ⟨g, 9, none⟩ = some (.int .i64 x.at_.ctime) ∧ w.cell? ⟨g, 10, none⟩ = some (.int .i64 x.at_.ino) ∧ w.cell? ⟨g, 11, none⟩ = some (.int .i64 x.at_.gen) ∧
    w.cell? ⟨g, 12, none⟩ = some (.string (str x.text)) ∧ w.cell? ⟨g, 13, none⟩ = some (.int .i64 x.n) ∧ w.cell? ⟨g, 14, none⟩ = some (.int .i64 x.free) ∧ w.cell? ⟨g, 15, none⟩ = some (.int .u64 x.used) ∧ w.cell? ⟨g, 16, none⟩ = some (.bool x.end_) ∧ w.cell? ⟨g, 17, none⟩ = some v ∧ w.cell? ⟨g, 18, none⟩ = some (.int .u64 x.verf) := by
  refine ⟨?_, ?_, ?_, ?_, ?_, ?_, ?_, ?_, ?_, ?_, ?_, ?_, ?_, ?_, ?_, ?_, ?_, ?_, ?_⟩ <;> (rw [cell_of_row _ _ _ _ _ _ h]; rfl)
set_option maxHeartbeats 4000000 in
theorem rSame_eq (x : RsT) (u v : Value) (w : World) (hu : EnR w u x.ents) (hv : EnR w v x.ents) (hl : x.ents.length ≤ 100000) :
    Calls Try.prog 36 #[.agg (rsC x u).toArray, .agg (rsC x v).toArray] w fun e w' => e = .returned (.bool true) ∧ Below w.heap.size w w' := by
  obtain ⟨A, c, rfl⟩ := RR.form hu
  obtain ⟨A', c', rfl⟩ := RR.form hv
  obtain ⟨n, hn⟩ : ∃ n, x.ents.length = n := ⟨_, rfl⟩
  have HN := Lib.hid hn
  rw [hn] at hl ⊢
  have hx1 := extAl w (.cells (rsC x (.slice A n c)).toArray 41)
  have hx2 := extAl (w.alloc (.cells (rsC x (.slice A n c)).toArray 41)) (.cells (rsC x (.slice A' n c')).toArray 41)
  have hb1 := Ext.blk hx2 (heap_alloc_last w (.cells (rsC x (.slice A n c)).toArray 41))
  have hb2 := heap_alloc_last (w.alloc (.cells (rsC x (.slice A n c)).toArray 41)) (.cells (rsC x (.slice A' n c')).toArray 41)
  have hx := Ext.trans hx1 hx2
  have HU : Hid (∀ W : World, Ext w W → RR W 3 (.slice A x.ents.length c) x.ents.length (x.ents.flatMap enC)) := Lib.hid fun W k => RR.ext hu k
  have HV : Hid (∀ W : World, Ext w W → RR W 3 (.slice A' x.ents.length c') x.ents.length (x.ents.flatMap enC)) := Lib.hid fun W k => RR.ext hv k
  rw [World.size_alloc] at hb2
  clear hx1 hx2 hu hv hn
  go_enter Try.func36, Try.ntmps36
  go_upto_region 1 with fail
  generalize (w.alloc (.cells (rsC x (.slice A n c)).toArray 41)).alloc (.cells (rsC x (.slice A' n c')).toArray 41) = W1 at *
  generalize Value.agg (rsC x (.slice A n c)).toArray = PV
  generalize Value.agg (rsC x (.slice A' n c')).toArray = QV
  have HX := Lib.hid hx
  have HB1 := Lib.hid hb1
  have HB2 := Lib.hid hb2
  clear hx hb1 hb2
  try simp only [List.append_eq, List.cons_append, List.nil_append]
  go_cut [75] (fun dv wx => dv = .bool false ∧ Hid (W1 = wx))
  case first =>
    obtain ⟨c0, c1, c2, c3, c4, c5, c6, c7, c8, c9, c10, c11, c12, c13, c14, c15, c16, c17, c18⟩ := rs_cells2 HB1.out
    obtain ⟨d0, d1, d2, d3, d4, d5, d6, d7, d8, d9, d10, d11, d12, d13, d14, d15, d16, d17, d18⟩ := rs_cells2 HB2.out
    have l1 := heap_lt HB1.out
    have l2 := heap_lt HB2.out
    obtain ⟨ee, hee⟩ : ∃ ee, x.end_ = ee := ⟨_, rfl⟩
    rw [hee] at c16 d16
    clear hee HB1 HB2 HU HV
    cases ee with
    | true =>
      go_wp2_with fail
      all_goals (go_meet; case rel => exact ⟨rfl, Lib.hid rfl⟩)
    | false =>
      go_wp2_with fail
      all_goals (go_meet; case rel => exact ⟨rfl, Lib.hid rfl⟩)
  case rest =>
  obtain ⟨rfl, HWC⟩ := hcut
  have hwc := HWC.out
  subst hwc
  clear HWC
  obtain ⟨E, hE⟩ : ∃ E, x.ents = E := ⟨_, rfl⟩
  rw [hE] at HN HU HV
  clear hE
  go_wp2_with fail
  go_loopw [5] (fun iv wr => ∃ k : Nat, k ≤ n ∧ iv = .int .i64 k ∧ Hid (Ext W1 wr)) (fun iv _ => n - (intOf iv).toNat)
  case atStart => exact ⟨0, Nat.zero_le _, rfl, Lib.hid (Ext.refl _)⟩
  case round =>
    obtain ⟨k, hk, rfl, HXX⟩ := hrel
    have hg1 := Ext.blk HXX.out HB1.out
    have hg2 := Ext.blk HXX.out HB2.out
    obtain ⟨-, -, -, -, -, -, -, -, -, -, -, -, -, -, -, -, -, c17, -⟩ := rs_cells2 hg1
    obtain ⟨-, -, -, -, -, -, -, -, -, -, -, -, -, -, -, -, -, d17, -⟩ := rs_cells2 hg2
    have l1 := heap_lt hg1
    have l2 := heap_lt hg2
    clear hg1 hg2
    by_cases hkl : k < n
    · obtain ⟨y, hy⟩ : ∃ y, E[k]? = some y := ⟨_, List.getElem?_eq_getElem (by have := HN.out; omega)⟩
      have h1 := HU.out wr (Ext.trans HX.out HXX.out)
      have h2 := HV.out wr (Ext.trans HX.out HXX.out)
      obtain ⟨b, off, rfl, hb, hcl, -⟩ := h1.at (by have := HN.out; omega)
      obtain ⟨b', off', rfl, hb', hcl', -⟩ := h2.at (by have := HN.out; omega)
      have y0 : wr.cell? ⟨b, off + k * 3, none⟩ = some (.string (str y.name)) := RR.cellAt (enc := enC) h1 enC_len hy (i := 0) rfl
      have y1 : wr.cell? ⟨b, off + k * 3 + 1, none⟩ = some (.int .i64 y.ino) := RR.cellAt (enc := enC) h1 enC_len hy (i := 1) rfl
      have y2 : wr.cell? ⟨b, off + k * 3 + 2, none⟩ = some (.int .i64 y.cookie) := RR.cellAt (enc := enC) h1 enC_len hy (i := 2) rfl
      have z0 : wr.cell? ⟨b', off' + k * 3, none⟩ = some (.string (str y.name)) := RR.cellAt (enc := enC) h2 enC_len hy (i := 0) rfl
      have z1 : wr.cell? ⟨b', off' + k * 3 + 1, none⟩ = some (.int .i64 y.ino) := RR.cellAt (enc := enC) h2 enC_len hy (i := 1) rfl
      have z2 : wr.cell? ⟨b', off' + k * 3 + 2, none⟩ = some (.int .i64 y.cookie) := RR.cellAt (enc := enC) h2 enC_len hy (i := 2) rfl
      have hn1 : n ≤ c := by have := HN.out; omega
      have hn2 : n ≤ c' := by have := HN.out; omega
      clear h1 h2 hy hcl hcl'
      go_wp2_with fail
      have e0 := fun (ψ : World → Prop) (e : ExtP wr.heap.size wr ψ) => e.cell y0 hb
      have e1 := fun (ψ : World → Prop) (e : ExtP wr.heap.size wr ψ) => e.cell y1 hb
      have e2 := fun (ψ : World → Prop) (e : ExtP wr.heap.size wr ψ) => e.cell y2 hb
      have e3 := fun (ψ : World → Prop) (e : ExtP wr.heap.size wr ψ) => e.cell z0 hb'
      have e4 := fun (ψ : World → Prop) (e : ExtP wr.heap.size wr ψ) => e.cell z1 hb'
      have e5 := fun (ψ : World → Prop) (e : ExtP wr.heap.size wr ψ) => e.cell z2 hb'
      have e6 := fun (ψ : World → Prop) (e : ExtP wr.heap.size wr ψ) => e.cell c17 l1
      have e7 := fun (ψ : World → Prop) (e : ExtP wr.heap.size wr ψ) => e.cell d17 l2
      clear y0 y1 y2 z0 z1 z2 c17 d17
      refine wp_region_pieces 11  [(true, [0, 1, 2, 3, 4, 5, 6, 7, 8, 9, 10])] (by kernel_rfl) (by kernel_rfl) ?_; simp only [pick, List.map_cons, List.map_nil, List.flatMap_cons, List.flatMap_nil, Option.toList_some, List.singleton_append, List.drop_succ_cons, List.drop_zero, List.getElem?_cons_zero, List.getElem?_cons_succ]
      refine ⟨by kernel_rfl, ?_⟩; apply Exists.intro; refine ⟨fun ψ hψ hne => (by (repeat (go_big_quiet_step (( fail )))); exact wpQuiet_nil rfl), ?_⟩
      intro w2 h2
      clear e0 e1 e2 e3 e4 e5 e6 e7
      have HX2 := Lib.hid (Ext.trans HXX.out h2)
      clear h2
      go_wp2_with fail
      go_roundw
      case rel => exact ⟨k + 1, by omega, by go_num, HX2⟩
      case measure => simp only [intOf]; omega
    · obtain rfl : k = n := by omega
      have HF := Lib.hid (Ext.trans HX.out HXX.out)
      go_wp2_with fail
      go_ret
      exact ⟨rfl, HF.out⟩
end Go.Proofs.Yteahlnoonmfjhaa
