/- Proved: NetClients returns true whatever number and whatever steps it is called with, and the argument reads behind the call as before. No condition. -/
import Derived.Test.YteahlnoonmfjhaaGreatRsF
import Derived.Test.YteahlnoonmfjhaaGreatMq
import Derived.Test.YteahlnoonmfjhaaGreatAfD
import Derived.Test.YteahlnoonmfjhaaGreatMs
import Derived.Test.YteahlnoonmfjhaaGreatMu
import Derived.Test.YteahlnoonmfjhaaGreatMo
import Derived.Test.YteahlnoonmfjhaaGreatLift
set_option linter.unusedVariables false
set_option maxRecDepth 100000
namespace Go.Proofs.YteahlnoonmfjhaaGreat
section
set_option linter.unusedVariables false
set_option maxRecDepth 100000
open Go.RowKit

theorem neq_h3s (a b c : Int) (w : World) : (binOp .neq 25 (.agg #[.int .i64 a, .int .i64 b, .int .i64 c]) (.agg #[.int .i64 a, .int .i64 b, .int .i64 c])).run Tryz.prog w = .ok (.bool false) w := by
  go_simp
theorem neq_at8s (k a b c d e f g : Int) (w : World) : (binOp .neq 57 (.agg #[.int .u8 k, .int .i64 a, .int .i64 b, .int .i64 c, .int .i64 d, .int .i64 e, .int .i64 f, .int .i64 g]) (.agg #[.int .u8 k, .int .i64 a, .int .i64 b, .int .i64 c, .int .i64 d, .int .i64 e, .int .i64 f, .int .i64 g])).run Tryz.prog w = .ok (.bool false) w := by
  go_simp
theorem neq_en3s (s : ByteArray) (a b : Int) (w : World) : (binOp .neq 113 (.agg #[.string s, .int .i64 a, .int .i64 b]) (.agg #[.string s, .int .i64 a, .int .i64 b])).run Tryz.prog w = .ok (.bool false) w := by
  go_simp
attribute [local go_sem ↓] neq_h3s neq_at8s neq_en3s
theorem rs_cells2 {w : World} {g : Nat} {T : TypeId} {fr : Nat × Nat} {x : RsT} {v : Value} (h : w.heap[g]? = some (.cells (rsC x v).toArray T fr)) :
    w.cell? ⟨g, 0, none⟩ = some (.int .i64 x.e) ∧ w.cell? ⟨g, 1, none⟩ = some (.int .i64 x.h.1) ∧ w.cell? ⟨g, 2, none⟩ = some (.int .i64 x.h.2.1) ∧ w.cell? ⟨g, 3, none⟩ = some (.int .i64 x.h.2.2) ∧
    w.cell? ⟨g, 4, none⟩ = some (.int .u8 x.at_.kind) ∧ w.cell? ⟨g, 5, none⟩ = some (.int .i64 x.at_.mode) ∧ w.cell? ⟨g, 6, none⟩ = some (.int .i64 x.at_.links) ∧ w.cell? ⟨g, 7, none⟩ = some (.int .i64 x.at_.size) ∧ w.cell? ⟨g, 8, none⟩ = some (.int .i64 x.at_.mtime) ∧ w.cell? ⟨g, 9, none⟩ = some (.int .i64 x.at_.ctime) ∧ w.cell? ⟨g, 10, none⟩ = some (.int .i64 x.at_.ino) ∧ w.cell? ⟨g, 11, none⟩ = some (.int .i64 x.at_.gen) ∧
    w.cell? ⟨g, 12, none⟩ = some (.string (str x.text)) ∧ w.cell? ⟨g, 13, none⟩ = some (.int .i64 x.n) ∧ w.cell? ⟨g, 14, none⟩ = some (.int .i64 x.free) ∧ w.cell? ⟨g, 15, none⟩ = some (.int .u64 x.used) ∧ w.cell? ⟨g, 16, none⟩ = some (.bool x.end_) ∧ w.cell? ⟨g, 17, none⟩ = some v ∧ w.cell? ⟨g, 18, none⟩ = some (.int .u64 x.verf) := by
  refine ⟨?_, ?_, ?_, ?_, ?_, ?_, ?_, ?_, ?_, ?_, ?_, ?_, ?_, ?_, ?_, ?_, ?_, ?_, ?_⟩ <;> (rw [cell_of_row _ _ _ _ _ _ h]; rfl)
set_option maxHeartbeats 4000000 in
theorem rSame_eq (x : RsT) (u v : Value) (w : World) (hu : EnR w u x.ents) (hv : EnR w v x.ents) (hl : x.ents.length ≤ 100000) :
    Calls Tryz.prog 27 #[.agg (rsC x u).toArray, .agg (rsC x v).toArray] w fun e w' => e = .returned (.bool true) ∧ Below w.heap.size w w' := by
  obtain ⟨A, c, rfl⟩ := RR.form hu
  obtain ⟨A', c', rfl⟩ := RR.form hv
  obtain ⟨n, hn⟩ : ∃ n, x.ents.length = n := ⟨_, rfl⟩
  have HN := Lib.hid hn
  rw [hn] at hl ⊢
  have hx1 := extAl w (.cells (rsC x (.slice A n c)).toArray 60)
  have hx2 := extAl (w.alloc (.cells (rsC x (.slice A n c)).toArray 60)) (.cells (rsC x (.slice A' n c')).toArray 60)
  have hb1 := Ext.blk hx2 (heap_alloc_last w (.cells (rsC x (.slice A n c)).toArray 60))
  have hb2 := heap_alloc_last (w.alloc (.cells (rsC x (.slice A n c)).toArray 60)) (.cells (rsC x (.slice A' n c')).toArray 60)
  have hx := Ext.trans hx1 hx2
  have HU : Hid (∀ W : World, Ext w W → RR W 3 (.slice A x.ents.length c) x.ents.length (x.ents.flatMap enC)) := Lib.hid fun W k => RR.ext hu k
  have HV : Hid (∀ W : World, Ext w W → RR W 3 (.slice A' x.ents.length c') x.ents.length (x.ents.flatMap enC)) := Lib.hid fun W k => RR.ext hv k
  rw [World.size_alloc] at hb2
  clear hx1 hx2 hu hv hn
  go_enter Tryz.func27, Tryz.ntmps27
  go_upto_region 1 with fail
  generalize (w.alloc (.cells (rsC x (.slice A n c)).toArray 60)).alloc (.cells (rsC x (.slice A' n c')).toArray 60) = W1 at *
  generalize Value.agg (rsC x (.slice A n c)).toArray = PV
  generalize Value.agg (rsC x (.slice A' n c')).toArray = QV
  have HX := Lib.hid hx
  have HB1 := Lib.hid hb1
  have HB2 := Lib.hid hb2
  clear hx hb1 hb2
  try simp only [List.append_eq, List.cons_append, List.nil_append]
  go_cut [75] (fun dv wx => dv = .bool false ∧ Hid (W1 = wx))
  case first =>
    obtain ⟨c0, c1, c2, c3, c4, c5, c6, c7, c8, c9, c10, c11, c12, c13, c14, c15, c16, c17, c18⟩ := rs_cells2 HB1.out
    obtain ⟨d0, d1, d2, d3, d4, d5, d6, d7, d8, d9, d10, d11, d12, d13, d14, d15, d16, d17, d18⟩ := rs_cells2 HB2.out
    have l1 := heap_lt HB1.out
    have l2 := heap_lt HB2.out
    obtain ⟨ee, hee⟩ : ∃ ee, x.end_ = ee := ⟨_, rfl⟩
    rw [hee] at c16 d16
    clear hee HB1 HB2 HU HV
    cases ee with
    | true =>
      go_wp2_with fail
      all_goals (go_meet; case rel => exact ⟨rfl, Lib.hid rfl⟩)
    | false =>
      go_wp2_with fail
      all_goals (go_meet; case rel => exact ⟨rfl, Lib.hid rfl⟩)
  case rest =>
  obtain ⟨rfl, HWC⟩ := hcut
  have hwc := HWC.out
  subst hwc
  clear HWC
  obtain ⟨E, hE⟩ : ∃ E, x.ents = E := ⟨_, rfl⟩
  rw [hE] at HN HU HV
  clear hE
  go_wp2_with fail
  go_loopw [5] (fun iv wr => ∃ k : Nat, k ≤ n ∧ iv = .int .i64 k ∧ Hid (Ext W1 wr)) (fun iv _ => n - (intOf iv).toNat)
  case atStart => exact ⟨0, Nat.zero_le _, rfl, Lib.hid (Ext.refl _)⟩
  case round =>
    obtain ⟨k, hk, rfl, HXX⟩ := hrel
    have hg1 := Ext.blk HXX.out HB1.out
    have hg2 := Ext.blk HXX.out HB2.out
    obtain ⟨-, -, -, -, -, -, -, -, -, -, -, -, -, -, -, -, -, c17, -⟩ := rs_cells2 hg1
    obtain ⟨-, -, -, -, -, -, -, -, -, -, -, -, -, -, -, -, -, d17, -⟩ := rs_cells2 hg2
    have l1 := heap_lt hg1
    have l2 := heap_lt hg2
    clear hg1 hg2
    by_cases hkl : k < n
    · obtain ⟨y, hy⟩ : ∃ y, E[k]? = some y := ⟨_, List.getElem?_eq_getElem (by have := HN.out; omega)⟩
      have h1 := HU.out wr (Ext.trans HX.out HXX.out)
      have h2 := HV.out wr (Ext.trans HX.out HXX.out)
      obtain ⟨b, off, rfl, hb, hcl, -⟩ := h1.at (by have := HN.out; omega)
      obtain ⟨b', off', rfl, hb', hcl', -⟩ := h2.at (by have := HN.out; omega)
      have y0 : wr.cell? ⟨b, off + k * 3, none⟩ = some (.string (str y.name)) := RR.cellAt (enc := enC) h1 enC_len hy (i := 0) rfl
      have y1 : wr.cell? ⟨b, off + k * 3 + 1, none⟩ = some (.int .i64 y.ino) := RR.cellAt (enc := enC) h1 enC_len hy (i := 1) rfl
      have y2 : wr.cell? ⟨b, off + k * 3 + 2, none⟩ = some (.int .i64 y.cookie) := RR.cellAt (enc := enC) h1 enC_len hy (i := 2) rfl
      have z0 : wr.cell? ⟨b', off' + k * 3, none⟩ = some (.string (str y.name)) := RR.cellAt (enc := enC) h2 enC_len hy (i := 0) rfl
      have z1 : wr.cell? ⟨b', off' + k * 3 + 1, none⟩ = some (.int .i64 y.ino) := RR.cellAt (enc := enC) h2 enC_len hy (i := 1) rfl
      have z2 : wr.cell? ⟨b', off' + k * 3 + 2, none⟩ = some (.int .i64 y.cookie) := RR.cellAt (enc := enC) h2 enC_len hy (i := 2) rfl
      have hn1 : n ≤ c := by have := HN.out; omega
      have hn2 : n ≤ c' := by have := HN.out; omega
      clear h1 h2 hy hcl hcl'
      go_wp2_with fail
      have e0 := fun (ψ : World → Prop) (e : ExtP wr.heap.size wr ψ) => e.cell y0 hb
      have e1 := fun (ψ : World → Prop) (e : ExtP wr.heap.size wr ψ) => e.cell y1 hb
      have e2 := fun (ψ : World → Prop) (e : ExtP wr.heap.size wr ψ) => e.cell y2 hb
      have e3 := fun (ψ : World → Prop) (e : ExtP wr.heap.size wr ψ) => e.cell z0 hb'
      have e4 := fun (ψ : World → Prop) (e : ExtP wr.heap.size wr ψ) => e.cell z1 hb'
      have e5 := fun (ψ : World → Prop) (e : ExtP wr.heap.size wr ψ) => e.cell z2 hb'
      have e6 := fun (ψ : World → Prop) (e : ExtP wr.heap.size wr ψ) => e.cell c17 l1
      have e7 := fun (ψ : World → Prop) (e : ExtP wr.heap.size wr ψ) => e.cell d17 l2
      clear y0 y1 y2 z0 z1 z2 c17 d17
      refine wp_region_pieces 11  [(true, [0, 1, 2, 3, 4, 5, 6, 7, 8, 9, 10])] (by kernel_rfl) (by kernel_rfl) ?_; simp only [pick, List.map_cons, List.map_nil, List.flatMap_cons, List.flatMap_nil, Option.toList_some, List.singleton_append, List.drop_succ_cons, List.drop_zero, List.getElem?_cons_zero, List.getElem?_cons_succ]
      refine ⟨by kernel_rfl, ?_⟩; apply Exists.intro; refine ⟨fun ψ hψ hne => (by (repeat (go_big_quiet_step (( fail )))); exact wpQuiet_nil rfl), ?_⟩
      intro w2 h2
      clear e0 e1 e2 e3 e4 e5 e6 e7
      have HX2 := Lib.hid (Ext.trans HXX.out h2)
      clear h2
      go_wp2_with fail
      go_roundw
      case rel => exact ⟨k + 1, by omega, by go_num, HX2⟩
      case measure => simp only [intOf]; omega
    · obtain rfl : k = n := by omega
      have HF := Lib.hid (Ext.trans HX.out HXX.out)
      go_wp2_with fail
      go_ret
      exact ⟨rfl, HF.out⟩
end

section
set_option linter.unusedVariables false
set_option maxRecDepth 100000
open Go.RowKit

/-- Append to a row of no cells: nothing that was there changes. -/
theorem appEz {P : Program} {w : World} {B sz : Nat} {C : Value → Prop} {x : Value} {g m : Nat} {new : List Value} {t tx ty e : TypeId} {i : TypeInfo} {z : Value} (ht : P.underlying t = some (.slice e)) (hi : P.info? e = some i) (h1 : i.size = sz) (hz : i.zero = some z) (hzz : z.cells.size = sz)
    (hg : w.heap[g]? = some (.cells #[] e (0, 0))) (hs : Src P sz tx x m new w) (hBg : B ≤ g) (hsz : 0 < sz) (hCn : ∀ u ∈ new, C u) (hCz : ∀ u ∈ z.cells, C u) (hc : m * i.bytes ≤ 140737488355328) (hm : m ≤ 140737488355328) :
    ∃ v' w', (Builtin.append_ #[t, tx] ty #[.slice (some ⟨g, 0, none⟩) 0 0, x]).run P w = .ok v' w' ∧ OwnR w' B e sz C v' m new ∧ Ext w w' := by
  have hnl := hs.newsLen
  have hgl := heap_lt hg
  by_cases h00 : m = 0
  · subst h00
    have hnew : new = [] := List.length_eq_zero_iff.1 (by simpa using hnl)
    subst hnew
    refine ⟨.slice (some ⟨g, 0, none⟩) 0 0, w, ?_, ⟨by simp, .inr ⟨g, 0, [], rfl, hBg, hg, by simp, by simp⟩⟩, Ext.refl _⟩
    have hcells : (Builtin.firstCells sz 0 x).run P w = .ok #[] w := hs.cells
    rcases hs.kind with ⟨e', hk⟩ | hk <;> simp [Builtin.append_, run_underlying ht, run_underlying hk, sizeOf, typeInfo, hi, h1, hs.len, hcells, storeCells]
  · have hs' := hs
    rw [← h1] at hs'
    have hr := run_append_grow_src (P := P) w t tx ty e i z ht hi hz (some ⟨g, 0, none⟩) 0 0 [] (by rw [h1]; exact run_firstCells_some (P := P) w.drew sz 0 ⟨g, 0, none⟩ 0 0 [] (by simp) fun j u hu => by simp at hu) x m new hs' (by omega) (by omega) (growslice_fits (by omega) (by simpa using hc))
    simp only [List.nil_append, Nat.zero_add] at hr
    have hge := grownCap_ge w m 0 e
    have hzl : (Builtin.zeroCells z.cells (grownCap w m 0 e - m)).toList.length = (grownCap w m 0 e - m) * sz := by simp [Builtin.zeroCells, hzz]
    have hE : Ext w (w.drew.alloc (.cells (new.toArray ++ Builtin.zeroCells z.cells (grownCap w m 0 e - m)) e)) := (Below.refl _ w).drew.alloc (Nat.le_refl _) _
    refine ⟨_, _, hr, ⟨hnl, .inr ⟨w.heap.size, grownCap w m 0 e, (Builtin.zeroCells z.cells (grownCap w m 0 e - m)).toList, rfl, by omega, ?_, ?_⟩⟩, hE⟩
    · have hrow : new.toArray ++ Builtin.zeroCells z.cells (grownCap w m 0 e - m) = (new ++ (Builtin.zeroCells z.cells (grownCap w m 0 e - m)).toList).toArray := by
        apply Array.ext'; simp
      rw [hrow]
      exact heap_alloc_new w.drew _
    · refine ⟨by rw [hnl, hzl, ← Nat.add_mul]; congr 1; omega, fun u hu => ?_⟩
      rcases List.mem_append.1 hu with hu | hu
      · exact hCn u hu
      · simp only [Builtin.zeroCells, Array.mem_toList_iff, Array.mem_map, Array.mem_range] at hu
        obtain ⟨j, _, rfl⟩ := hu
        have hj : j % z.cells.size < z.cells.size := Nat.mod_lt _ (by omega)
        rw [getElem!_pos z.cells _ hj]
        exact hCz _ (Array.getElem_mem hj)
theorem rop_info : ∃ i, Tryz.prog.info? 80 = some i ∧ i.zero = some (.agg #[.int .i64 0, .int .i64 0, .string ⟨#[]⟩]) ∧ i.size = 3 ∧ i.bytes = 32 :=
  info_prt (by kernel_rfl)
theorem zop_one : ∀ u ∈ (Value.agg #[.int .i64 0, .int .i64 0, .string ⟨#[]⟩]).cells, One u := by intro u hu; simp [Value.cells] at hu; rcases hu with rfl | rfl | rfl <;> rfl
theorem appE_rop {w : World} {B g : Nat} {x : Value} {m : Nat} {new : List Value} {tx ty : TypeId} (hg : w.heap[g]? = some (.cells #[] 80 (0, 0))) (hs : Src Tryz.prog 3 tx x m new w) (hB : B ≤ g) (hn : ∀ u ∈ new, One u) (hc : m ≤ 1000000) :
    ∃ v' w', (Builtin.append_ #[72, tx] ty #[.slice (some ⟨g, 0, none⟩) 0 0, x]).run Tryz.prog w = .ok v' w' ∧ OwnR w' B 80 3 One v' m new ∧ Ext w w' := by
  obtain ⟨i, hi, hz0, hz1, hz2⟩ := rop_info
  exact appEz (ty := ty) Tryz.underlying72 hi hz1 hz0 rfl hg hs hB (by omega) hn zop_one (by rw [hz2]; omega) (by omega)
theorem app_rop {w : World} {B n : Nat} {v x : Value} {cs : List Value} {m : Nat} {new : List Value} {tx ty : TypeId} (ho : OwnR w B 80 3 One v n cs) (hs : Src Tryz.prog 3 tx x m new w) (hB : B ≤ w.heap.size) (hn : ∀ u ∈ new, One u) (hc : n + m ≤ 1000000) :
    ∃ v' w', (Builtin.append_ #[72, tx] ty #[v, x]).run Tryz.prog w = .ok v' w' ∧ OwnR w' B 80 3 One v' (n + m) (cs ++ new) ∧ Below B w w' ∧ w.grownBy w' v.ownBlock ∧ (∀ b, v'.ownBlock = some b → v.ownBlock = some b ∨ w.heap.size ≤ b) :=
  app_nt (z := .agg #[.int .i64 0, .int .i64 0, .string ⟨#[]⟩]) Tryz.underlying72 (by kernel_rfl) rfl zop_one ho hs hB hn hc
/-- The document's client. -/
abbrev rcO (g : Nat) (N L : Int) (l : List Cl) : Ob Z0 := ntOb 74 80 [.int .i64 N] [.int .i64 L] g l.length (clcs l)
theorem nt_s1 {w : World} {g : Nat} {T : TypeId} {a b c : Value} (x : Value) (h : w.heap[g]? = some (.cells #[a, b, c] T (0, 0))) : w.setCell ⟨g, 1, none⟩ x = w.setRow g #[a, x, c] := by
  rw [setCell_eq_setRow w g 1 _ T (0, 0) x h]; rfl
theorem rNewC_yes (n : Int) (h : ¬ (n < 1 ∨ 16 < n)) (w : World) : Calls Tryz.prog 6 #[.int .i64 n] w fun e w' => ∃ g, e = .returned (.tuple #[.pointer (some ⟨g, 0, none⟩), .int .i64 0]) ∧ (rcO g n 0 []).is w' (fun i => w.heap.size ≤ i ∧ i < w'.heap.size) ∧ Ext w w' := by
  have F : Hid ((rcO w.heap.size n 0 []).is (w.alloc (.cells #[.int .i64 n, .slice none 0 0, .int .i64 0] 74)) (fun i => w.heap.size ≤ i ∧ i < (w.alloc (.cells #[.int .i64 n, .slice none 0 0, .int .i64 0] 74)).heap.size)) := Lib.hid
    ⟨.slice none 0 0, heap_alloc_last w _, OwnR.nil, ⟨Nat.le_refl _, by simp⟩, fun b hb => by simp [Value.ownBlock] at hb⟩
  have h1 : ¬ n < 1 := fun h1 => h (.inl h1)
  have h2 : ¬ 16 < n := fun h2 => h (.inr h2)
  clear h
  go_enter Tryz.func6, Tryz.ntmps6
  go_wp2
  go_ret2
  exact ⟨_, rfl, F.out, extAl _ _⟩
theorem rNewC_no (n : Int) (h : n < 1 ∨ 16 < n) (w : World) : Calls Tryz.prog 6 #[.int .i64 n] w fun e w' => e = .returned (.tuple #[.pointer none, .int .i64 1]) ∧ Ext w w' := by
  by_cases h1 : n < 1
  · clear h
    go_enter Tryz.func6, Tryz.ntmps6
    go_wp2
    go_ret2
    exact ⟨rfl, Ext.refl _⟩
  · have h2 : 16 < n := h.resolve_left h1
    clear h
    go_enter Tryz.func6, Tryz.ntmps6
    go_wp2
    go_ret2
    exact ⟨rfl, Ext.refl _⟩
theorem rcAt_any {S : Nat → Prop} {g : Nat} {N L : Int} {l : List Cl} (n : Int) (w : World) (h : (rcO g N L l).is w S) (hn : l.length ≤ 1000) :
    Calls Tryz.prog 43 #[.pointer (some ⟨g, 0, none⟩), .int .i64 n] w fun e w' => e = .returned (.int .i64 (ixC l n)) ∧ Ext w w' := by
  obtain ⟨v, h⟩ := h
  obtain ⟨A, c, rfl⟩ := h.row.form
  obtain ⟨-, c1, -, -, gl⟩ := nt_c2 (l := []) h.hg
  have HL := Lib.hid (h.row.rr (by decide))
  clear h
  go_enter Tryz.func43, Tryz.ntmps43
  go_wp2
  go_loop [5] (fun s => ∃ k : Nat, k ≤ l.length ∧ s = .int .i64 k ∧ Hid (∀ j y, j < k → l[j]? = some y → y.x ≠ n)) (fun s => l.length - (intOf s).toNat)
  case atStart => exact ⟨0, Nat.zero_le _, rfl, Lib.hid fun j y hj => absurd hj (Nat.not_lt_zero _)⟩
  case round =>
    obtain ⟨k, hk, rfl, HA⟩ := hrel
    by_cases hlt : k < l.length
    · obtain ⟨b, off, rfl, hb, hc, -⟩ := HL.out.at (by omega)
      obtain ⟨x, hx⟩ : ∃ x, l[k]? = some x := ⟨_, List.getElem?_eq_getElem hlt⟩
      have h0 := RR.cellAt (enc := clC) HL.out clC_len hx (i := 0) rfl
      rw [← Nat.add_assoc] at h0
      simp only [Nat.add_zero] at h0
      have HXK := Lib.hid hx
      clear hx
      by_cases hq : x.x = n
      · have hqb : (x.x == n) = true := by simp [hq]
        have E : Hid (ixC l n = k) := Lib.hid (ixC_hit HXK.out hq HA.out)
        clear hq
        go_wp2
        go_ret
        exact ⟨by rw [E.out]; rfl, Ext.refl _⟩
      · have hqb : (x.x == n) = false := beq_eq_false_iff_ne.2 hq
        have HQ := Lib.hid hq
        clear hq
        go_wp2
        go_round
        case measure => simp only [intOf]; omega
        case rel =>
          refine ⟨k + 1, by omega, by go_num, Lib.hid fun j y hj hy => ?_⟩
          by_cases e : j = k
          · subst e
            rw [HXK.out] at hy
            cases hy
            exact HQ.out
          · exact HA.out j y (by omega) hy
    · obtain rfl : k = l.length := by omega
      have E : Hid (ixC l n = -1) := Lib.hid (ixC_miss HA.out)
      go_wp2
      go_ret
      exact ⟨by rw [E.out]; rfl, Ext.refl _⟩
theorem rcAgain_any {S : Nat → Prop} {g : Nat} {N L : Int} {l : List Cl} (n : Int) (w : World) (h : (rcO g N L l).is w S) (hn : l.length ≤ 1000) :
    Calls Tryz.prog 25 #[.pointer (some ⟨g, 0, none⟩), .int .i64 n] w fun e w' => e = .returned (.tuple #[.string (str (againR l n).1), .int .i64 (againR l n).2]) ∧ Ext w w' := by
  have KA := rcAt_any n w h hn
  obtain ⟨v, h⟩ := h
  obtain ⟨A, c, rfl⟩ := h.row.form
  rcases ixC_cases l n with ⟨e1, -⟩ | ⟨i, o, e1, ho, -, hi⟩
  · rw [againR_none e1]
    rw [e1] at KA
    have K := Lib.hid KA
    clear KA e1 h
    go_enter Tryz.func25, Tryz.ntmps25
    go_wp2_with fail
    refine K.out.mono ?_
    rintro e w1 ⟨rfl, k1⟩
    have HE := Lib.hid k1
    clear k1 K
    go_wp2_with fail
    go_ret2
    exact ⟨rfl, HE.out⟩
  · rw [againR_some e1 ho]
    rw [e1] at KA
    have K := Lib.hid KA
    obtain ⟨gs, rfl, -, hsl, hnc, -⟩ := h.row.cells (by omega)
    have z2 := Lib.hid (RR.cellAt (enc := clC) (h.row.rr (by decide)) clC_len ho (i := 2) rfl)
    have hnc' := hnc (by decide)
    obtain ⟨m, hm⟩ : ∃ m, l.length = m := ⟨_, rfl⟩
    have HG : Hid (w.heap[g]? = some (.cells #[.int .i64 N, .slice (some ⟨gs, 0, none⟩) m c, .int .i64 L] 74 (0, 0))) := Lib.hid (by rw [← hm]; exact h.hg)
    rw [hm] at hi hnc'
    clear KA e1 h ho hnc hm hn
    go_enter Tryz.func25, Tryz.ntmps25
    go_wp2_with fail
    refine K.out.mono ?_
    rintro e w1 ⟨rfl, k1⟩
    obtain ⟨-, c1, -, -, gl⟩ := nt_c2 (l := []) ((Below.block k1 g (heap_lt HG.out)).trans HG.out)
    have y2 := (Below.cell (p := ⟨gs, 0 + (i * 3 + 2), none⟩) k1 hsl).trans z2.out
    simp only [Nat.zero_add] at y2
    have hs1 : gs < w1.heap.size := Nat.lt_of_lt_of_le hsl (Below.size k1)
    have hi0 : ¬ ((i : Int) < 0) := by omega
    have HE := Lib.hid k1
    clear k1 K z2 HG
    go_wp2_with fail
    go_ret2
    exact ⟨rfl, HE.out⟩
end

section
set_option linter.unusedVariables false
set_option maxRecDepth 100000
open Go.RowKit

set_option maxHeartbeats 4000000 in
theorem rcCopy_any {S : Nat → Prop} {g : Nat} {N L : Int} {l : List Cl} (w : World) (h : (rcO g N L l).is w S) (hn : l.length ≤ 1000) :
    Calls Tryz.prog 8 #[.pointer (some ⟨g, 0, none⟩)] w fun e w' => ∃ g', e = .returned (.pointer (some ⟨g', 0, none⟩)) ∧ (rcO g' N L l).is w' (fun i => w.heap.size ≤ i ∧ i < w'.heap.size) ∧ Ext w w' := by
  obtain ⟨v, h⟩ := h
  obtain ⟨A, c, rfl⟩ := h.row.form
  have hg : w.heap[g]? = some (.cells #[.int .i64 N, .slice A l.length c, .int .i64 L] 74 (0, 0)) := h.hg
  obtain ⟨c0, c1, c2, -, gl⟩ := nt_c2 (l := []) hg
  have HR := Lib.hid (h.row.rr (by decide))
  have HO := Lib.hid (clcs_one l)
  obtain ⟨n, hnn⟩ : ∃ n, l.length = n := ⟨_, rfl⟩
  have HN := Lib.hid hnn
  rw [hnn] at HR c1 hn
  clear h hg hnn
  go_enter Tryz.func8, Tryz.ntmps8
  go_upto_region 1 with fail
  have q0 := fun (ψ : World → Prop) (e : ExtP w.heap.size w ψ) => e.cell c0 gl
  have q1 := fun (ψ : World → Prop) (e : ExtP w.heap.size w ψ) => e.cell c1 gl
  have q2 := fun (ψ : World → Prop) (e : ExtP w.heap.size w ψ) => e.cell c2 gl
  clear c0 c1 c2
  refine wp_region_pieces 14  [(true, [0, 1, 2, 3, 5, 6, 7, 8, 10, 11, 12, 13]), (false, [4]), (false, [9])] (by kernel_rfl) (by kernel_rfl) ?_; simp only [pick, List.map_cons, List.map_nil, List.flatMap_cons, List.flatMap_nil, Option.toList_some, List.singleton_append, List.drop_succ_cons, List.drop_zero, List.getElem?_cons_zero, List.getElem?_cons_succ]
  refine ⟨by kernel_rfl, ?_⟩; apply Exists.intro; refine ⟨fun ψ hψ hne => (by (repeat (go_big_quiet_step (( fail )))); exact wpQuiet_nil rfl), ?_⟩
  clear q0 q1 q2
  intro wa ha K hK
  go_wp2_with fail
  refine hK _ _ (extAl _ _) ?_
  clear hK K
  intro wb hb K hK
  have hza := Below.size ha
  have hxb : Ext w wb := Ext.trans (Ext.trans ha (extAl wa _)) hb
  have hgb : wb.heap[wa.heap.size]? = some (.cells #[] 80 (0, 0)) := Ext.blk hb (heap_alloc_last wa _)
  obtain ⟨v1, wc, hr1, ho1, hx1⟩ := appE_rop (tx := 72) (ty := 72) hgb ((HR.out.ext hxb).src Tryz.underlying72 HO.out) (B := w.heap.size) hza HO.out (by omega)
  obtain ⟨A1, c1, rfl⟩ := ho1.form
  have Hr1 := Lib.hid hr1
  have HX1 := Lib.hid hx1
  have HO1 := Lib.hid ho1
  have HXc := Lib.hid (Ext.trans hxb hx1)
  clear ha hb hxb hgb hr1 hx1 ho1 hza
  go_wp2_with (at_builtin; refine wpList_app rfl (.tmp 7) (.tmp 11) 72 72 rfl Hr1.out ?_; simp only [Act.put])
  refine hK _ _ HX1.out ?_
  clear hK K
  (try simp only [List.setIfInBounds_toArray, List.set_cons_zero, List.set_cons_succ])
  intro w5 h5
  have hx := extAl w5 (.cells #[.int .i64 N, .slice A1 n c1, .int .i64 L] 74)
  have hb := heap_alloc_last w5 (.cells #[.int .i64 N, .slice A1 n c1, .int .i64 L] 74)
  have h05 := Ext.trans HXc.out h5
  have hz := h05.size
  have hlt := heap_lt hb
  have HF : Hid ((rcO w5.heap.size N L l).is (w5.alloc (.cells #[.int .i64 N, .slice A1 n c1, .int .i64 L] 74)) (fun i => w.heap.size ≤ i ∧ i < (w5.alloc (.cells #[.int .i64 N, .slice A1 n c1, .int .i64 L] 74)).heap.size)) := Lib.hid
    ⟨.slice A1 n c1, hb, by
      have := (HO1.out.ext (Ext.trans h5 hx)).mono (Nat.zero_le _)
      rw [HN.out]
      exact this, ⟨hz, hlt⟩, fun b hb => by
      have := own_lt (HO1.out.ext h5) hb
      have h2 := hx.size
      exact ⟨by omega, by omega⟩⟩
  have HE : Hid (Ext w (w5.alloc (.cells #[.int .i64 N, .slice A1 n c1, .int .i64 L] 74))) := Lib.hid (Ext.trans h05 hx)
  clear hx hb hz hlt h05 h5 HO1 HXc
  go_wp2_with fail
  go_ret
  exact ⟨_, rfl, HF.out, HE.out⟩
set_option maxHeartbeats 8000000 in
theorem rcCall_any {S : Nat → Prop} {g : Nat} {N L : Int} {l : List Cl} (p : Int) (a : AgT) (w : World) (h : (rcO g N L l).is w S) (hn : l.length ≤ 1000) (hp : I64 p) (hk : a.Ok) (hL : 0 ≤ L ∧ L ≤ 1000000) :
    Calls Tryz.prog 24 #[.pointer (some ⟨g, 0, none⟩), .int .i64 p, .agg (agC a).toArray] w fun e w' => e = .returned (.tuple #[.string (str (callR N L l p a).r.1), .int .i64 (callR N L l p a).r.2]) ∧ To S w w' (rcO g N (callR N L l p a).L (callR N L l p a).l) := by
  have hh := Lib.hid h
  obtain ⟨v, h⟩ := h
  obtain ⟨A, c, rfl⟩ := h.row.form
  obtain ⟨m, hm⟩ : ∃ m, l.length = m := ⟨_, rfl⟩
  have H : Hid (NtP w S 74 80 [.int .i64 N] [.int .i64 L] g m (clcs l) (.slice A m c)) := Lib.hid (by rw [hm] at h; exact h)
  rw [hm] at h
  have hpw : (Lit.int .i64 p).wf = true := by
    obtain ⟨h1, h2⟩ := hp
    simp [Lit.wf, IntKind.min, IntKind.max, IntKind.signed, IntKind.bits]
    omega
  have KW := Lib.hid (fun w : World => rWrite_any p a w hp hk)
  rw [← aW_rW] at KW
  have HX := Lib.hid (extAl w (.cells (agC a).toArray 28))
  have HB := Lib.hid (heap_alloc_last w (.cells (agC a).toArray 28))
  have HN : Hid (l.length = m) := Lib.hid hm
  have hlen := fun h => (aR_aW (p := p) hk h).2.2
  obtain ⟨R, hR⟩ : ∃ R, callR N L l p a = R := ⟨_, rfl⟩
  rw [hR]
  unfold callR at hR
  generalize aW p a = X at *
  obtain ⟨X1, X2⟩ := X
  simp only at hR KW hlen
  rw [hm] at hR hn
  have hL1 : L + 1 ≤ 1000001 := by omega
  have hL0 : 0 ≤ L + 1 := by omega
  clear h hm hp hk hpw
  by_cases h1 : X2 = 0
  · subst h1
    rw [if_neg (by simp)] at hR
    have hl4 := hlen rfl
    by_cases h2 : 8 ≤ m
    · rw [if_pos h2] at hR
      subst hR
      clear hlen hl4
      go_enter Tryz.func24, Tryz.ntmps24
      go_upto_region 1 with fail
      generalize w.alloc (.cells (agC a).toArray 28) = w1 at *
      have HLa := Lib.hid (ldAg HB.out)
      go_wp2_with (refine wpList_ld rfl 28 (.tmp 5) rfl HLa.out ?_; simp only [Act.put])
      refine (KW.out _).mono ?_
      rintro e w2 ⟨rfl, k2⟩
      have HX2 := Lib.hid (Ext.trans HX.out k2)
      have H2 := Lib.hid (H.out.ext HX2.out)
      obtain ⟨c0, c1, c2, -, gl⟩ := nt_c2 (l := []) H2.out.hg
      clear HX HB k2 KW HLa
      have FF := Lib.hid (To.of_ext hh.out HX2.out)
      go_wp2_with fail
      go_ret2
      exact ⟨rfl, FF.out⟩
    · rw [if_neg h2] at hR
      have KC := Lib.hid (fun w : World => crWrite_any N (L + 1) p X1 w (by omega))
      unfold headV seV at KC
      generalize cW N (L + 1) p X1 = Y at *
      obtain ⟨Y1, Y2⟩ := Y
      simp only at hR KC
      have hw1 : wrap64 (L + 1) = L + 1 := by unfold wrap64; omega
      clear hlen hl4
      by_cases h3 : Y2 = 0
      · subst h3
        rw [if_neg (by simp)] at hR
        subst hR
        simp only
        go_enter Tryz.func24, Tryz.ntmps24
        go_upto_region 1 with fail
        generalize w.alloc (.cells (agC a).toArray 28) = w1 at *
        have HLa := Lib.hid (ldAg HB.out)
        go_wp2_with (refine wpList_ld rfl 28 (.tmp 5) rfl HLa.out ?_; simp only [Act.put])
        refine (KW.out _).mono ?_
        rintro e w2 ⟨rfl, k2⟩
        have HX2 := Lib.hid (Ext.trans HX.out k2)
        have H2 := Lib.hid (H.out.ext HX2.out)
        obtain ⟨c0, c1, c2, -, gl⟩ := nt_c2 (l := []) H2.out.hg
        clear HX HB k2 KW HLa
        go_upto_region 6 with fail
        have q0 := fun (ψ : World → Prop) (e : ExtP w2.heap.size w2 ψ) => e.cell c0 gl
        have q1 := fun (ψ : World → Prop) (e : ExtP w2.heap.size w2 ψ) => e.cell c2 gl
        clear c0 c1 c2
        refine wp_region_pieces 17  [(true, [0, 1, 2, 3, 4, 5, 6, 7, 8, 9, 10, 11]), (false, [12]), (true, [13, 14, 15, 16])] (by kernel_rfl) (by kernel_rfl) ?_; simp only [pick, List.map_cons, List.map_nil, List.flatMap_cons, List.flatMap_nil, Option.toList_some, List.singleton_append, List.drop_succ_cons, List.drop_zero, List.getElem?_cons_zero, List.getElem?_cons_succ]
        refine ⟨by kernel_rfl, ?_⟩; apply Exists.intro; refine ⟨fun ψ hψ hne => (by (repeat (go_big_quiet_step (( fail )))); exact wpQuiet_nil rfl), ?_⟩
        clear q0 q1
        intro w3 h3 K hK
        go_wp2_with (go_at_call 42; refine (KC.out _).mono ?_; rintro e w4 ⟨rfl, k4⟩)
        refine hK _ _ k4 ?_
        have HX4 := Lib.hid (Ext.trans HX2.out (Ext.trans (a := w2) h3 k4))
        clear hK K h3 k4 KC
        refine ⟨by kernel_rfl, ?_⟩; apply Exists.intro; refine ⟨fun ψ hψ hne => (by (repeat (go_big_quiet_step (( fail )))); exact wpQuiet_nil rfl), ?_⟩
        intro w5 h5
        have HX5 := Lib.hid (Ext.trans HX4.out h5)
        have H5 := Lib.hid (H.out.ext HX5.out)
        obtain ⟨c0, c1, c2, cf, gl⟩ := nt_c2 (l := []) H5.out.hg
        clear h5 HX4 H2
        have hst := nt_s2 (.int .i64 (L + 1)) H5.out.hg
        have hg6 := setRow_heap w5 g _ #[.int .i64 N, .slice A m c, .int .i64 (L + 1)] _ _ H5.out.hg
        have F6 : To S w (w5.setRow g #[.int .i64 N, .slice A m c, .int .i64 (L + 1)]) (rcO g N (L + 1) l) := by
          show To S w _ (ntOb _ _ _ _ g l.length (clcs l))
          rw [HN.out]
          exact H.out.fin (pre' := [.int .i64 N]) (post' := [.int .i64 (L + 1)]) (v' := .slice A m c) (by decide) (Mut.of_ext HX5.out) H5.out.hg H5.out.row fun b hb => .inl (H5.out.sv b hb)
        have h6 : NtP (w5.setRow g #[.int .i64 N, .slice A m c, .int .i64 (L + 1)]) (gr S w (w5.setRow g #[.int .i64 N, .slice A m c, .int .i64 (L + 1)])) 74 80 [.int .i64 N] [.int .i64 (L + 1)] g m (clcs l) (.slice A m c) :=
          ⟨hg6, H5.out.row.set H5.out.hg (by decide), .inl H5.out.sg, fun b hb => .inl (H5.out.sv b hb)⟩
        have ST := Lib.hid hst
        have H6 := Lib.hid h6
        have HF6 := Lib.hid F6
        clear hst hg6 F6 h6 H5 HX5 H
        go_upto_region 10 with fail
        rw [ST.out]
        generalize w5.setRow g #[.int .i64 N, .slice A m c, .int .i64 (L + 1)] = w6 at *
        clear c0 c1 c2 cf gl ST
        obtain ⟨c0, c1, c2, -, gl⟩ := nt_c2 (l := []) H6.out.hg
        obtain ⟨So, HSo⟩ : ∃ So : Nat → Prop, Hid (So = fun j => (Value.slice A m c).ownBlock = some j) := ⟨_, Lib.hid rfl⟩
        have hng : ¬ So g := by rw [HSo.out]; exact fun e => own_ne H6.out.row H6.out.hg (by decide) e
        have q0 : ∀ (ψ : World → Prop) (e : ExtS So w6 ψ), e.val.cell? ⟨g, 1, none⟩ = some (.slice A m c) := fun ψ e => e.cell c1 gl hng
        have q1 : ∀ (ψ : World → Prop) (e : ExtS So w6 ψ), e.val.cell? ⟨g, 2, none⟩ = some (.int .i64 (L + 1)) := fun ψ e => e.cell c2 gl hng
        clear c0 c1 c2
        have HPE := Lib.hid (clC_eq ⟨L + 1, p, Y1⟩)
        have HP1 := Lib.hid (clC_one ⟨L + 1, p, Y1⟩)
        simp only at HPE
        refine wp_region_piecesS So 14 [(true, [0, 1, 2, 3, 4, 5, 6, 7, 8, 9, 10, 11]), (false, [12]), (false, [13])] (by kernel_rfl) (by kernel_rfl) ?_
        simp only [pick, List.map_cons, List.map_nil, List.flatMap_cons, List.flatMap_nil, Option.toList_some, List.singleton_append, List.drop_succ_cons, List.drop_zero, List.getElem?_cons_zero, List.getElem?_cons_succ]
        refine ⟨by kernel_rfl, ?_⟩; apply Exists.intro; refine ⟨fun ψ hψ hne => (by (repeat (go_big_quiet_step (( fail )))); exact wpQuiet_nil rfl), ?_⟩
        clear q0 q1
        intro wa ha K hK
        have BS := heap_alloc_last wa (.cells (clC ⟨L + 1, p, Y1⟩).toArray 80)
        have Ha := Lib.hid (Ext.trans (a := w6) ha (extAl wa (.cells (clC ⟨L + 1, p, Y1⟩).toArray 80)))
        have Hx := Lib.hid (extAl wa (.cells (clC ⟨L + 1, p, Y1⟩).toArray 80))
        go_wp2_with fail
        rw [← HPE.out]
        refine hK _ _ (Mut.of_ext Hx.out) ?_
        clear hK K ha Hx
        generalize wa.alloc (.cells (clC ⟨L + 1, p, Y1⟩).toArray 80) = wA at *
        generalize wa.heap.size = g9 at *
        intro wb hb K hK
        have hsrc := src_row (P := Tryz.prog) (sz := 3) (tx := 72) (n := 1) (c := 1) Tryz.underlying72 ((Below.block hb g9 (heap_lt BS)).trans BS) (by rfl) HP1.out
        obtain ⟨v', wc, hr, ho, -, hgr, hs⟩ := app_rop (ty := 72) (H6.out.row.ext (Ext.trans Ha.out hb)) hsrc (Nat.zero_le _) HP1.out (by omega)
        obtain ⟨A', c', rfl⟩ := ho.form
        have Hr := Lib.hid hr
        have hMS : Mut So wb wc := Mut.of_grown hgr fun b hb => by rw [HSo.out]; exact hb
        have MS := Lib.hid hMS
        have hXb : Ext w6 wb := Ext.trans Ha.out hb
        have HXb := Lib.hid hXb
        have HG := Lib.hid ((hMS.block g (Nat.lt_of_lt_of_le gl hXb.size) hng).trans ((Below.block hXb g gl).trans H6.out.hg))
        have HO := Lib.hid ho
        have HS2 : Hid (∀ b, (Value.slice A' (m + 1) c').ownBlock = some b → gr S w w6 b ∨ w6.heap.size ≤ b) := Lib.hid fun b hb => (hs b hb).imp (fun h => H6.out.sv b h) fun h => Nat.le_trans hXb.size h
        have HM0 : Hid (Mut (gr S w w6) w6 wc) := Lib.hid ((Mut.of_ext hXb).trans (hMS.mono fun j hj => H6.out.sv j (by rw [HSo.out] at hj; exact hj)))
        clear hr ho hgr hs hMS hsrc BS hb hXb
        go_wp2_with (at_builtin; refine wpList_app rfl (.tmp 56) (.tmp 64) 72 72 rfl Hr.out ?_; simp only [Act.put])
        refine hK _ _ MS.out ?_
        clear hK K
        (try simp only [List.setIfInBounds_toArray, List.set_cons_zero, List.set_cons_succ])
        intro w8 h8
        have hg8 := (Below.block h8 g (heap_lt HG.out)).trans HG.out
        have F := H6.out.fin (pre' := [.int .i64 N]) (post' := [.int .i64 (L + 1)]) (v' := .slice A' (m + 1) c') (by decide) (HM0.out.trans (Mut.of_ext h8)) hg8 (HO.out.ext h8) HS2.out
        have hst := nt_s1 (.slice A' (m + 1) c') hg8
        obtain ⟨c0, c1, c2, cf, cl⟩ := nt_c2 (l := []) hg8
        have ST := Lib.hid hst
        have hF : To S w (w8.setRow g #[.int .i64 N, .slice A' (m + 1) c', .int .i64 (L + 1)]) (rcO g N (L + 1) (l ++ [⟨L + 1, p, Y1⟩])) := by
          have F' := To.trans HF6.out F
          refine F'.cast ?_
          show _ = ntOb _ _ [.int .i64 N] [.int .i64 (L + 1)] g (l ++ [_]).length (clcs (l ++ [_]))
          rw [clcs_snoc, List.length_append, HN.out]
          rfl
        have FF := Lib.hid hF
        clear hst F hF hg8 h8 HO HM0 HS2 HG MS Hr HXb
        go_wp2_with fail
        rw [ST.out]
        go_wp2_with fail
        go_ret2
        exact ⟨rfl, FF.out⟩
      · rw [if_pos h3] at hR
        subst hR
        have z1 : (Y2 == 0) = false := beq_eq_false_iff_ne.2 h3
        simp only
        go_enter Tryz.func24, Tryz.ntmps24
        go_upto_region 1 with fail
        generalize w.alloc (.cells (agC a).toArray 28) = w1 at *
        have HLa := Lib.hid (ldAg HB.out)
        go_wp2_with (refine wpList_ld rfl 28 (.tmp 5) rfl HLa.out ?_; simp only [Act.put])
        refine (KW.out _).mono ?_
        rintro e w2 ⟨rfl, k2⟩
        have HX2 := Lib.hid (Ext.trans HX.out k2)
        have H2 := Lib.hid (H.out.ext HX2.out)
        obtain ⟨c0, c1, c2, -, gl⟩ := nt_c2 (l := []) H2.out.hg
        clear HX HB k2 KW HLa
        go_upto_region 6 with fail
        have q0 := fun (ψ : World → Prop) (e : ExtP w2.heap.size w2 ψ) => e.cell c0 gl
        have q1 := fun (ψ : World → Prop) (e : ExtP w2.heap.size w2 ψ) => e.cell c2 gl
        clear c0 c1 c2
        refine wp_region_pieces 17  [(true, [0, 1, 2, 3, 4, 5, 6, 7, 8, 9, 10, 11]), (false, [12]), (true, [13, 14, 15, 16])] (by kernel_rfl) (by kernel_rfl) ?_; simp only [pick, List.map_cons, List.map_nil, List.flatMap_cons, List.flatMap_nil, Option.toList_some, List.singleton_append, List.drop_succ_cons, List.drop_zero, List.getElem?_cons_zero, List.getElem?_cons_succ]
        refine ⟨by kernel_rfl, ?_⟩; apply Exists.intro; refine ⟨fun ψ hψ hne => (by (repeat (go_big_quiet_step (( fail )))); exact wpQuiet_nil rfl), ?_⟩
        clear q0 q1
        intro w3 h3 K hK
        go_wp2_with (go_at_call 42; refine (KC.out _).mono ?_; rintro e w4 ⟨rfl, k4⟩)
        refine hK _ _ k4 ?_
        have HX4 := Lib.hid (Ext.trans HX2.out (Ext.trans (a := w2) h3 k4))
        clear hK K h3 k4 KC
        refine ⟨by kernel_rfl, ?_⟩; apply Exists.intro; refine ⟨fun ψ hψ hne => (by (repeat (go_big_quiet_step (( fail )))); exact wpQuiet_nil rfl), ?_⟩
        intro w5 h5
        have HX5 := Lib.hid (Ext.trans HX4.out h5)
        have H5 := Lib.hid (H.out.ext HX5.out)
        obtain ⟨c0, c1, c2, cf, gl⟩ := nt_c2 (l := []) H5.out.hg
        clear h5 HX4 H2
        have FF := Lib.hid (To.of_ext hh.out HX5.out)
        go_wp2_with fail
        go_ret2
        exact ⟨rfl, FF.out⟩
  · rw [if_pos h1] at hR
    subst hR
    have z1 : (X2 == 0) = false := beq_eq_false_iff_ne.2 h1
    clear hlen
    go_enter Tryz.func24, Tryz.ntmps24
    go_upto_region 1 with fail
    generalize w.alloc (.cells (agC a).toArray 28) = w1 at *
    have HLa := Lib.hid (ldAg HB.out)
    go_wp2_with (refine wpList_ld rfl 28 (.tmp 5) rfl HLa.out ?_; simp only [Act.put])
    refine (KW.out _).mono ?_
    rintro e w2 ⟨rfl, k2⟩
    have HX2 := Lib.hid (Ext.trans HX.out k2)
    have H2 := Lib.hid (H.out.ext HX2.out)
    obtain ⟨c0, c1, c2, -, gl⟩ := nt_c2 (l := []) H2.out.hg
    clear HX HB k2 KW HLa
    have FF := Lib.hid (To.of_ext hh.out HX2.out)
    go_wp2_with fail
    go_ret2
    exact ⟨rfl, FF.out⟩
end

section
set_option linter.unusedVariables false
set_option maxRecDepth 100000
open Go.RowKit

/-- What the document's Hear comes to. -/
def HearD (w : World) (S : Nat → Prop) (g : Nat) (N L : Int) (R : HrT) (e : Ending) (w' : World) : Prop :=
  ∃ rv, e = .returned (.tuple #[.int .i64 R.n, .agg (rsC R.x rv).toArray, .int .i64 R.e]) ∧ EnO w' w.heap.size rv R.x.ents ∧ To S w w' (rcO g N L R.l)
theorem new_rs3r (w : World) (x e : Int) (l : List UInt8) : (Instr.storeAt 109 (.pointer (some ⟨w.heap.size, 0, none⟩)) (.agg #[.int .i64 x, .int .i64 e, .string (str l)])).run Tryz.prog (w.alloc (.cells #[.int .i64 0, .int .i64 0, .string ⟨#[]⟩] 109)) = .ok () (w.alloc (.cells #[.int .i64 x, .int .i64 e, .string (str l)] 109)) := by
  have := storeAt_row (P := Tryz.prog) (ty := 109) (cs := #[.int .i64 x, .int .i64 e, .string (str l)]) (heap_alloc_last w (.cells #[.int .i64 0, .int .i64 0, .string ⟨#[]⟩] 109)) (by kernel_rfl) rfl (by simp [Value.oneCell'])
  rw [World.setRow_alloc_new] at this
  exact this
theorem trim_lt0 {S : Nat → Prop} {w : World} {D : Ob Z0} : ∀ i, (S i ∧ ∃ o, w.heap[i]? = some o ∧ D.K o) → S i ∧ i < w.heap.size := fun i ⟨h1, o, ho, _⟩ => ⟨h1, heap_lt ho⟩
set_option maxHeartbeats 16000000 in
theorem rcHear_any {S : Nat → Prop} {g : Nat} {N L : Int} {l : List Cl} (s : List UInt8) (w : World) (h : (rcO g N L l).is w S) (hn : l.length ≤ 1000) (hs : s.length ≤ 10000) (hpo : ∀ o ∈ l, I64 o.p) :
    Calls Tryz.prog 26 #[.pointer (some ⟨g, 0, none⟩), .string (str s)] w (HearD w S g N L (hearR l s)) := by
  have hh := Lib.hid h
  obtain ⟨S2, HS2t, HT2⟩ : ∃ S2 : Nat → Prop, Hid (∀ i, S2 i → S i ∧ i < w.heap.size) ∧ Hid ((rcO g N L l).is w S2) := ⟨_, Lib.hid trim_lt0, Lib.hid ((rcO g N L l).trim h)⟩
  have KS := Lib.hid (fun w : World => crHear_any s w (by omega))
  have KA := Lib.hid (fun (w' : World) (k : Ext w w') => rcAt_any (cH s).1.x w' ((rcO g N L l).ext h k) hn)
  have HB := Lib.hid (heap_alloc_last w (.cells (rsC rs0 (.slice none 0 0)).toArray 60))
  have HX := Lib.hid (extAl w (.cells (rsC rs0 (.slice none 0 0)).toArray 60))
  have HW1 : Hid (w.alloc (.cells (rsC rs0 (.slice none 0 0)).toArray 60) = w.alloc (.cells #[.int .i64 0, .int .i64 0, .int .i64 0, .int .i64 0, .int .u8 0, .int .i64 0, .int .i64 0, .int .i64 0, .int .i64 0, .int .i64 0, .int .i64 0, .int .i64 0, .string ⟨#[]⟩, .int .i64 0, .int .i64 0, .int .u64 0, .bool false, .slice none 0 0, .int .u64 0] 60)) := Lib.hid rfl
  have hlen : (cH s).1.l.length ≤ 10000 := by
    unfold cH
    split
    · show (s.drop 12).length ≤ 10000
      rw [List.length_drop]
      omega
    · exact Nat.zero_le _
  obtain ⟨R, hR⟩ : ∃ R, hearR l s = R := ⟨_, rfl⟩
  rw [hR]
  unfold hearR at hR
  unfold aeV AnsT.v ansV at KS
  generalize cH s = Y at *
  obtain ⟨⟨AX, AE, AL⟩, Y2⟩ := Y
  simp only at hR KS KA hlen
  clear h
  by_cases h1 : Y2 = 0
  case neg =>
    rw [if_pos h1] at hR
    subst hR
    have z1 : (Y2 == 0) = false := beq_eq_false_iff_ne.2 h1
    go_enter Tryz.func26, Tryz.ntmps26
    go_upto_region 1 with fail
    rw [← HW1.out]
    generalize w.alloc (.cells (rsC rs0 (.slice none 0 0)).toArray 60) = w1 at *
    have KS1 := Lib.hid (KS.out w1)
    go_upto_region 2 with (first | (go_at_call 44; refine KS1.out.mono ?_; rintro e w2 ⟨rfl, k2⟩) | (refine wpList_st rfl 109 (.tmp 7) (.tmp 16) rfl (new_rs3r _ _ _ _) ?_; simp only [Act.put]))
    have hx2 := extAl w2 (.cells #[.int .i64 AX, .int .i64 AE, .string (str AL)] 109)
    have hb7 := heap_alloc_last w2 (.cells #[.int .i64 AX, .int .i64 AE, .string (str AL)] 109)
    have k02 := Ext.trans (Ext.trans HX.out k2) hx2
    have HX3 := Lib.hid k02
    have HB7 := Lib.hid hb7
    have HB5 := Lib.hid ((Below.block (Ext.trans (a := w1) k2 hx2) _ (heap_lt HB.out)).trans HB.out)
    have hz7 : w.heap.size < w2.heap.size := Nat.lt_of_lt_of_le (heap_lt HB.out) (Below.size k2)
    clear hx2 hb7 k02 k2 KS KS1 HW1 HX HB
    generalize w2.alloc (.cells #[.int .i64 AX, .int .i64 AE, .string (str AL)] 109) = w3 at *
    generalize w2.heap.size = g7 at *
    have hs5 := storeRsZ (HB5.out)
    have HS := Lib.hid hs5
    have HF := Lib.hid (setRow_heap w3 w.heap.size _ (rsC rs0 (.slice none 0 0)).toArray _ _ (HB5.out))
    have HE : Hid (Ext w (w3.setRow w.heap.size (rsC rs0 (.slice none 0 0)).toArray)) := Lib.hid (below_setRow (HX3.out) (Nat.le_refl _) _)
    have FF := Lib.hid (To.of_ext hh.out HE.out)
    clear hs5 HE
    go_wp2_with (refine wpList_st rfl 60 (.tmp 5) (.tmp 20) rfl HS.out ?_; simp only [Act.put])
    (try simp only [Exit.inBlock, Exit.then])
    exact bodyPost_ret (results_tct Tryz.results26 _ _ _ _ _ _ _ rfl HF.out Tryz.underlying60 rfl (by kernel_rfl)) rfl ⟨.slice none 0 0, rfl, OwnR.nil, FF.out⟩
  subst h1
  rw [if_neg (by simp)] at hR
  rcases ixC_cases l AX with ⟨e1, -⟩ | ⟨i, o, e1, ho, -, hi⟩
  · have hR' : R = ⟨0, rs0, 5, l⟩ := by
      rw [← hR, e1]
      split
      · rfl
      · rw [if_pos (by decide)]
    subst hR'
    rw [e1] at KA
    clear hR e1
    go_enter Tryz.func26, Tryz.ntmps26
    go_upto_region 1 with fail
    rw [← HW1.out]
    generalize w.alloc (.cells (rsC rs0 (.slice none 0 0)).toArray 60) = w1 at *
    have KS1 := Lib.hid (KS.out w1)
    go_upto_region 2 with (first | (go_at_call 44; refine KS1.out.mono ?_; rintro e w2 ⟨rfl, k2⟩) | (refine wpList_st rfl 109 (.tmp 7) (.tmp 16) rfl (new_rs3r _ _ _ _) ?_; simp only [Act.put]))
    have hx2 := extAl w2 (.cells #[.int .i64 AX, .int .i64 AE, .string (str AL)] 109)
    have hb7 := heap_alloc_last w2 (.cells #[.int .i64 AX, .int .i64 AE, .string (str AL)] 109)
    have k02 := Ext.trans (Ext.trans HX.out k2) hx2
    have HX3 := Lib.hid k02
    have HB7 := Lib.hid hb7
    have HB5 := Lib.hid ((Below.block (Ext.trans (a := w1) k2 hx2) _ (heap_lt HB.out)).trans HB.out)
    have hz7 : w.heap.size < w2.heap.size := Nat.lt_of_lt_of_le (heap_lt HB.out) (Below.size k2)
    clear hx2 hb7 k02 k2 KS KS1 HW1 HX HB
    generalize w2.alloc (.cells #[.int .i64 AX, .int .i64 AE, .string (str AL)] 109) = w3 at *
    generalize w2.heap.size = g7 at *
    obtain ⟨d0, d1, d2, -, dl⟩ := nt_c2 (l := []) HB7.out
    have KA3 := Lib.hid (KA.out w3 HX3.out)
    go_wp2_with fail
    refine KA3.out.mono ?_
    rintro e w4 ⟨rfl, k4⟩
    have HX4 := Lib.hid (Ext.trans HX3.out k4)
    have HB74 := Lib.hid ((Below.block k4 _ dl).trans HB7.out)
    have HB54 := Lib.hid ((Below.block k4 _ (heap_lt HB5.out)).trans HB5.out)
    clear d0 d1 d2 dl KA KA3 k4 HB7 HB5 HX3
    have hs5 := storeRsZ (HB54.out)
    have HS := Lib.hid hs5
    have HF := Lib.hid (setRow_heap w4 w.heap.size _ (rsC rs0 (.slice none 0 0)).toArray _ _ (HB54.out))
    have HE : Hid (Ext w (w4.setRow w.heap.size (rsC rs0 (.slice none 0 0)).toArray)) := Lib.hid (below_setRow (HX4.out) (Nat.le_refl _) _)
    have FF := Lib.hid (To.of_ext hh.out HE.out)
    clear hs5 HE
    go_wp2_with (refine wpList_st rfl 60 (.tmp 5) (.tmp 28) rfl HS.out ?_; simp only [Act.put])
    (try simp only [Exit.inBlock, Exit.then])
    exact bodyPost_ret (results_tct Tryz.results26 _ _ _ _ _ _ _ rfl HF.out Tryz.underlying60 rfl (by kernel_rfl)) rfl ⟨.slice none 0 0, rfl, OwnR.nil, FF.out⟩
  rw [e1, Int.toNat_natCast, ho] at hR
  simp only at hR
  rw [if_neg (by omega)] at hR
  have hop := hpo o (List.mem_of_getElem? ho)
  rw [e1] at KA
  unfold hearB at hR
  simp only at hR
  have hi0 : ¬ ((i : Int) < 0) := by omega
  have hw1 : wrap64 ((i : Int) + 1) = (i : Int) + 1 := by unfold wrap64; omega
  obtain ⟨v, hnt⟩ := HT2.out
  obtain ⟨hl0, ⟨_, h00⟩ | ⟨gs, c, junk, rfl, -, hgs, hcap, hone⟩⟩ := hnt.row
  · omega
  have hsl := heap_lt hgs
  have HGL := Lib.hid (heap_lt hnt.hg)
  have hsuf : ∀ (b : Nat), b < l.length → RR w 3 (.slice (some ⟨gs, (b + 1) * 3, none⟩) (l.length - (b + 1)) (c - (b + 1))) (l.length - (b + 1)) ((clcs l).drop ((b + 1) * 3)) := fun b hb =>
    ⟨by rw [List.length_drop, hl0, Nat.sub_mul], .inr ⟨gs, (b + 1) * 3, c - (b + 1), rfl, hsl, by rw [hl0] at hcap; omega, fun j hj => by
      rw [List.length_drop] at hj
      rw [cell_of_row _ _ _ _ _ _ hgs, List.getElem?_toArray, List.getElem?_append_left (by omega), List.getElem?_eq_getElem (by omega), List.getElem_drop]⟩⟩
  have hpre : ∀ (b : Nat), b < l.length → RR w 3 (.slice (some ⟨gs, 0, none⟩) b c) b ((clcs l).take (b * 3)) := fun b hb =>
    ⟨by rw [List.length_take, hl0]; omega, .inr ⟨gs, 0, c, rfl, hsl, by rw [hl0] at hcap; omega, fun j hj => by
      rw [List.length_take] at hj
      rw [Nat.zero_add, cell_of_row _ _ _ _ _ _ hgs, List.getElem?_toArray, List.getElem?_append_left (by omega), List.getElem?_eq_getElem (by omega), List.getElem_take]⟩⟩
  have hncap : l.length ≤ c := by rw [hl0] at hcap; omega
  have HLE : Hid ((l.eraseIdx i).length = i + (l.length - (i + 1))) := Lib.hid (by rw [List.length_eraseIdx, if_pos hi]; omega)
  have HOE : Hid (outC (clcs l) i = clcs (l.eraseIdx i)) := Lib.hid (outC_flat clC_len l _)
  have HPre0 := Lib.hid (hpre _ hi)
  have HSuf0 := Lib.hid (hsuf _ hi)
  have HSO : Hid (∀ u ∈ (clcs l).drop ((i + 1) * 3), One u) := Lib.hid fun u hu => clcs_one l u (List.mem_of_mem_drop hu)
  have HPO : Hid (∀ u ∈ (clcs l).take (i * 3), One u) := Lib.hid fun u hu => clcs_one l u (List.mem_of_mem_take hu)
  have HN2 := Lib.hid hnt
  have Z1 := Lib.hid (RR.cellAt (enc := clC) (hnt.row.rr (by decide)) clC_len ho (i := 1) rfl)
  have KH := Lib.hid (fun w' : World => rHear_any o.p AL w' hop (by omega))
  rw [← aH_rH] at KH
  have hon := ho
  obtain ⟨op, hopx⟩ : ∃ z, o.p = z := ⟨_, rfl⟩
  rw [hopx] at Z1 KH hR
  clear hpre hsuf hgs hone hcap hnt hl0 ho hon hop hopx hpo e1
  generalize l.length = n at *
  by_cases hE : AE = 0
  case neg =>
    rw [if_neg hE] at hR
    subst hR
    have z1 : (AE == 0) = false := beq_eq_false_iff_ne.2 hE
    clear KH Z1
    go_enter Tryz.func26, Tryz.ntmps26
    go_upto_region 1 with fail
    rw [← HW1.out]
    generalize w.alloc (.cells (rsC rs0 (.slice none 0 0)).toArray 60) = w1 at *
    have KS1 := Lib.hid (KS.out w1)
    go_upto_region 2 with (first | (go_at_call 44; refine KS1.out.mono ?_; rintro e w2 ⟨rfl, k2⟩) | (refine wpList_st rfl 109 (.tmp 7) (.tmp 16) rfl (new_rs3r _ _ _ _) ?_; simp only [Act.put]))
    have hx2 := extAl w2 (.cells #[.int .i64 AX, .int .i64 AE, .string (str AL)] 109)
    have hb7 := heap_alloc_last w2 (.cells #[.int .i64 AX, .int .i64 AE, .string (str AL)] 109)
    have k02 := Ext.trans (Ext.trans HX.out k2) hx2
    have HX3 := Lib.hid k02
    have HB7 := Lib.hid hb7
    have HB5 := Lib.hid ((Below.block (Ext.trans (a := w1) k2 hx2) _ (heap_lt HB.out)).trans HB.out)
    have hz7 : w.heap.size < w2.heap.size := Nat.lt_of_lt_of_le (heap_lt HB.out) (Below.size k2)
    clear hx2 hb7 k02 k2 KS KS1 HW1 HX HB
    generalize w2.alloc (.cells #[.int .i64 AX, .int .i64 AE, .string (str AL)] 109) = w3 at *
    generalize w2.heap.size = g7 at *
    obtain ⟨d0, d1, d2, -, dl⟩ := nt_c2 (l := []) HB7.out
    have KA3 := Lib.hid (KA.out w3 HX3.out)
    go_wp2_with fail
    refine KA3.out.mono ?_
    rintro e w4 ⟨rfl, k4⟩
    have HX4 := Lib.hid (Ext.trans HX3.out k4)
    have HB74 := Lib.hid ((Below.block k4 _ dl).trans HB7.out)
    have HB54 := Lib.hid ((Below.block k4 _ (heap_lt HB5.out)).trans HB5.out)
    clear d0 d1 d2 dl KA KA3 k4 HB7 HB5 HX3
    obtain ⟨d0, d1, d2, -, dl⟩ := nt_c2 (l := []) HB74.out
    have HNE := Lib.hid (new_rsE w4 AE)
    have hxA := extAl w4 (.cells (rsC { rs0 with e := AE } (.slice none 0 0)).toArray 60)
    have HXV := Lib.hid (Ext.trans HX4.out hxA)
    have HVA := Lib.hid (heap_alloc_last w4 (.cells (rsC { rs0 with e := AE } (.slice none 0 0)).toArray 60))
    have HV7 := Lib.hid ((Below.block hxA _ (heap_lt HB74.out)).trans HB74.out)
    have HV5 := Lib.hid ((Below.block hxA _ (heap_lt HB54.out)).trans HB54.out)
    have hz10 : w.heap.size < w4.heap.size := heap_lt HB54.out
    go_upto_region 8 with (refine wpList_st rfl 60 (.tmp 10) (.tmp 31) rfl HNE.out ?_; simp only [Act.put]; clear HNE)
    clear d0 d1 d2 dl hxA HX4 HB74 HB54
    generalize w4.alloc (.cells (rsC { rs0 with e := AE } (.slice none 0 0)).toArray 60) = wV at *
    generalize w4.heap.size = g10 at *
    obtain ⟨d0, d1, d2, -, dl⟩ := nt_c2 (l := []) HV7.out
    have HVE : Hid (EnO wV w.heap.size (.slice none 0 0) []) := Lib.hid OwnR.nil
    have H3 := Lib.hid (HN2.out.ext HXV.out)
    obtain ⟨-, cr, -, -, gl⟩ := nt_c2 (l := []) H3.out.hg
    obtain ⟨So, HSo⟩ : ∃ So : Nat → Prop, Hid (So = fun j => wV.heap.size ≤ j) := ⟨_, Lib.hid rfl⟩
    have hng : ¬ So g := by rw [HSo.out]; omega
    have q0 : ∀ (ψ : World → Prop) (e : ExtS So wV ψ), e.val.cell? ⟨g, 1, none⟩ = some (.slice (some ⟨gs, 0, none⟩) n c) := fun ψ e => e.cell cr gl hng
    have HPre := Lib.hid (HPre0.out.ext HXV.out)
    have HSuf := Lib.hid (HSuf0.out.ext HXV.out)
    clear cr HPre0 HSuf0
    go_upto_region 13 with fail
    refine wp_region_piecesS So 17 [(true, [0, 2, 3, 4, 5, 6, 7, 9, 10, 11, 12, 13, 14, 15]), (false, [1]), (false, [8]), (false, [16])] (by kernel_rfl) (by kernel_rfl) ?_
    by_cases hci : c = i + 1
    · obtain rfl : n = i + 1 := by omega
      subst hci
      have HSn : Hid (RR wV 3 (.slice (some ⟨gs, 0, none⟩) 0 0) 0 ((clcs l).drop ((i + 1) * 3))) := Lib.hid (by
        have h1 := HSuf.out.1
        exact ⟨by rw [h1]; omega, .inl ⟨some ⟨gs, 0, none⟩, 0, rfl, rfl⟩⟩)
      have HLE0 : Hid ((l.eraseIdx i).length = i + 0) := Lib.hid (by rw [HLE.out]; omega)
      clear HLE
      have HLE := HLE0
      clear HLE0
      obtain ⟨m, HM⟩ : ∃ m, Hid (i + 0 = m) := ⟨_, Lib.hid rfl⟩
      simp only [pick, List.map_cons, List.map_nil, List.flatMap_cons, List.flatMap_nil, Option.toList_some, List.singleton_append, List.drop_succ_cons, List.drop_zero, List.getElem?_cons_zero, List.getElem?_cons_succ]
      refine ⟨by kernel_rfl, ?_⟩; apply Exists.intro; refine ⟨fun ψ hψ hne => (by (repeat (go_big_quiet_step (( fail )))); exact wpQuiet_nil rfl), ?_⟩
      clear q0
      intro wa ha K hK
      go_wp2_with fail
      refine hK _ _ (Mut.of_ext (extAl _ _)) ?_
      clear hK K
      intro wb hb K hK
      have hza := Below.size ha
      have hxb : Ext wV wb := Ext.trans (Ext.trans ha (extAl wa _)) hb
      have hgb : wb.heap[wa.heap.size]? = some (.cells #[] 80 (0, 0)) := Ext.blk hb (heap_alloc_last wa _)
      obtain ⟨v1, wc, hr1, ho1, hx1⟩ := appE_rop (tx := 72) (ty := 72) hgb ((HPre.out.ext hxb).src Tryz.underlying72 HPO.out) (B := wV.heap.size) hza HPO.out (by omega)
      obtain ⟨A1, c1, rfl⟩ := ho1.form
      have Hr1 := Lib.hid hr1
      have HX1 := Lib.hid hx1
      have HO1 := Lib.hid ho1
      have HXc := Lib.hid (Ext.trans hxb hx1)
      clear ha hb hxb hgb hr1 hx1 ho1 hza
      go_wp2_with (at_builtin; refine wpList_app rfl (.tmp 55) (.tmp 61) 72 72 rfl Hr1.out ?_; simp only [Act.put])
      refine hK _ _ (Mut.of_ext HX1.out) ?_
      clear hK K
      (try simp only [List.setIfInBounds_toArray, List.set_cons_zero, List.set_cons_succ])
      intro wd hd K hK
      have hxd : Ext wV wd := Ext.trans HXc.out hd
      obtain ⟨v2, we, hr2, ho2, hb2, hg2, hs2⟩ := app_rop (ty := 72) (HO1.out.ext hd) ((HSn.out.ext (Ext.trans HXc.out hd)).src (tx := 72) Tryz.underlying72 HSO.out) (Below.size hxd) HSO.out (by omega)
      rw [HM.out] at ho2
      obtain ⟨A2, c2, rfl⟩ := ho2.form
      have Hr2 := Lib.hid hr2
      have MU : Hid (Mut So wd we) := Lib.hid (Mut.of_grown hg2 fun b hb => by rw [HSo.out]; exact (own_lt HO1.out hb).1)
      have HXe : Hid (Ext wV we) := Lib.hid (Below.trans hxd hb2)
      have HO2 := Lib.hid ho2
      have HS2 : Hid (∀ b, (Value.slice A2 m c2).ownBlock = some b → wV.heap.size ≤ b) := Lib.hid fun b hb => (own_lt ho2 hb).1
      clear hr2 ho2 hb2 hg2 hs2 hxd hd
      go_wp2_with (at_builtin; refine wpList_app rfl (.tmp 62) (.tmp 69) 72 72 rfl Hr2.out ?_; simp only [Act.put])
      refine hK _ _ MU.out ?_
      clear hK K
      (try simp only [List.setIfInBounds_toArray, List.set_cons_zero, List.set_cons_succ])
      intro w6 h6
      have hx6 := Ext.trans HXe.out h6
      have hg6 := (Below.block hx6 g gl).trans H3.out.hg
      have F := H3.out.fin (pre' := [.int .i64 N]) (post' := [.int .i64 L]) (v' := .slice A2 m c2) (by decide) (Mut.of_ext hx6) hg6 ((HO2.out.ext h6).mono (Nat.zero_le _)) (fun b hb => .inr (HS2.out b hb))
      have hst := nt_s1 (.slice A2 m c2) hg6
      have hF : To S2 wV (w6.setRow g #[.int .i64 N, .slice A2 m c2, .int .i64 L]) (rcO g N L (l.eraseIdx i)) := F.cast (by show _ = ntOb _ _ [.int .i64 N] [.int .i64 L] g (l.eraseIdx i).length (clcs (l.eraseIdx i)); rw [HLE.out, HM.out, ← HOE.out]; rfl)
      have hng7 : g7 ≠ g := fun e => by subst e; have h1 := HV7.out; rw [H3.out.hg] at h1; simp at h1
      have hng5 : w.heap.size ≠ g := fun e => by have := HGL.out; omega
      have hngA : g10 ≠ g := fun e => by subst e; have h1 := HVA.out; rw [H3.out.hg] at h1; simp at h1
      have h79 := (setRow_other w6 g g7 #[.int .i64 N, .slice A2 m c2, .int .i64 L] hng7).trans ((Below.block hx6 _ (heap_lt HV7.out)).trans HV7.out)
      have h59 := (setRow_other w6 g w.heap.size #[.int .i64 N, .slice A2 m c2, .int .i64 L] hng5).trans ((Below.block hx6 _ (heap_lt HV5.out)).trans HV5.out)
      have hA9 := (setRow_other w6 g g10 #[.int .i64 N, .slice A2 m c2, .int .i64 L] hngA).trans ((Below.block hx6 _ (heap_lt HVA.out)).trans HVA.out)
      have HEN9 := Lib.hid ((HVE.out.ext hx6).set (row' := #[.int .i64 N, .slice A2 m c2, .int .i64 L]) hg6 (by decide))
      have HF := Lib.hid hF
      have ST := Lib.hid hst
      have HB79 := Lib.hid h79
      have HB59 := Lib.hid h59
      have HBA9 := Lib.hid hA9
      have hz8 := heap_lt HV5.out
      obtain ⟨c0, c1, c2', cf, cl⟩ := nt_c2 (l := []) hg6
      clear hst F hF hg6 hx6 h6 HO2 HXe HO1 HXc h79 h59 hA9 HVE
      go_upto_region 14 with fail
      rw [ST.out]
      clear ST c0 c1 c2' cf cl
      generalize w6.setRow g #[.int .i64 N, .slice A2 m c2, .int .i64 L] = w9 at *
      obtain ⟨d0, -, -, -, dl⟩ := nt_c2 (l := []) HB79.out
      have q0 := fun (ψ : World → Prop) (e : ExtP w9.heap.size w9 ψ) => e.cell d0 dl
      have hla := heap_lt HBA9.out
      have LB := Lib.hid fun (w' : World) (k : Ext w9 w') => ldRs ((Below.block k g10 hla).trans HBA9.out)
      clear d0
      refine wp_region_pieces 4  [(true, [0, 1, 2, 3])] (by kernel_rfl) (by kernel_rfl) ?_; simp only [pick, List.map_cons, List.map_nil, List.flatMap_cons, List.flatMap_nil, Option.toList_some, List.singleton_append, List.drop_succ_cons, List.drop_zero, List.getElem?_cons_zero, List.getElem?_cons_succ]
      refine ⟨by kernel_rfl, ?_⟩; apply Exists.intro; refine ⟨fun ψ hψ hne => ?_, ?_⟩
      · iterate 2 (go_big_quiet_step (fail))
        go_big_quiet_want; refine quiet_ld 60 (.tmp 10) rfl (fun w' hw' => LB.out w' (by obtain ⟨e, rfl⟩ := hw'; exact e.ok)) ?_; go_simp; go_big_quiet_on
        go_big_quiet_step (fail)
        exact wpQuiet_nil rfl
      intro wz hz
      have hb5z := (Below.block hz _ (heap_lt HB59.out)).trans HB59.out
      have hs5 := storeRs (y := ({ rs0 with e := AE } : RsT)) (A := none) (n := 0) (c := 0) hb5z
      have HS := Lib.hid hs5
      have HFz := Lib.hid (setRow_heap wz w.heap.size _ (rsC (({ rs0 with e := AE } : RsT)) (.slice none 0 0)).toArray _ _ hb5z)
      have hFz : To S w (wz.setRow w.heap.size (rsC (({ rs0 with e := AE } : RsT)) (.slice none 0 0)).toArray) (rcO g N L (l.eraseIdx i)) :=
        To.beside (To.then_ext HF.out hz) HXV.out (fun i hi => HS2t.out i hi) (Nat.le_refl _) hz8 (mut_setRow (S := fun j => j = w.heap.size) rfl (rsC (({ rs0 with e := AE } : RsT)) (.slice none 0 0)).toArray)
      have FF := Lib.hid hFz
      have HEN : Hid (EnO (wz.setRow w.heap.size (rsC (({ rs0 with e := AE } : RsT)) (.slice none 0 0)).toArray) w.heap.size (.slice none 0 0) (({ rs0 with e := AE } : RsT)).ents) := Lib.hid ((HEN9.out.ext hz).set hb5z (by decide))
      clear hs5 hb5z hFz hz q0 LB
      go_wp2_with (refine wpList_st rfl 60 (.tmp 5) (.tmp 75) rfl HS.out ?_; simp only [Act.put])
      (try simp only [Exit.inBlock, Exit.then])
      exact bodyPost_ret (results_tct Tryz.results26 _ _ _ _ _ _ _ rfl HFz.out Tryz.underlying60 rfl (by kernel_rfl)) rfl ⟨_, rfl, HEN.out, FF.out⟩
    · have hci' : ¬ c - (i + 1) = 0 := by omega
      obtain ⟨m, HM⟩ : ∃ m, Hid (i + (n - (i + 1)) = m) := ⟨_, Lib.hid rfl⟩
      simp only [pick, List.map_cons, List.map_nil, List.flatMap_cons, List.flatMap_nil, Option.toList_some, List.singleton_append, List.drop_succ_cons, List.drop_zero, List.getElem?_cons_zero, List.getElem?_cons_succ]
      refine ⟨by kernel_rfl, ?_⟩; apply Exists.intro; refine ⟨fun ψ hψ hne => (by (repeat (go_big_quiet_step (( fail )))); exact wpQuiet_nil rfl), ?_⟩
      clear q0
      intro wa ha K hK
      go_wp2_with fail
      refine hK _ _ (Mut.of_ext (extAl _ _)) ?_
      clear hK K
      intro wb hb K hK
      have hza := Below.size ha
      have hxb : Ext wV wb := Ext.trans (Ext.trans ha (extAl wa _)) hb
      have hgb : wb.heap[wa.heap.size]? = some (.cells #[] 80 (0, 0)) := Ext.blk hb (heap_alloc_last wa _)
      obtain ⟨v1, wc, hr1, ho1, hx1⟩ := appE_rop (tx := 72) (ty := 72) hgb ((HPre.out.ext hxb).src Tryz.underlying72 HPO.out) (B := wV.heap.size) hza HPO.out (by omega)
      obtain ⟨A1, c1, rfl⟩ := ho1.form
      have Hr1 := Lib.hid hr1
      have HX1 := Lib.hid hx1
      have HO1 := Lib.hid ho1
      have HXc := Lib.hid (Ext.trans hxb hx1)
      clear ha hb hxb hgb hr1 hx1 ho1 hza
      go_wp2_with (at_builtin; refine wpList_app rfl (.tmp 55) (.tmp 61) 72 72 rfl Hr1.out ?_; simp only [Act.put])
      refine hK _ _ (Mut.of_ext HX1.out) ?_
      clear hK K
      (try simp only [List.setIfInBounds_toArray, List.set_cons_zero, List.set_cons_succ])
      intro wd hd K hK
      have hxd : Ext wV wd := Ext.trans HXc.out hd
      obtain ⟨v2, we, hr2, ho2, hb2, hg2, hs2⟩ := app_rop (ty := 72) (HO1.out.ext hd) ((HSuf.out.ext (Ext.trans HXc.out hd)).src (tx := 72) Tryz.underlying72 HSO.out) (Below.size hxd) HSO.out (by omega)
      rw [HM.out] at ho2
      obtain ⟨A2, c2, rfl⟩ := ho2.form
      have Hr2 := Lib.hid hr2
      have MU : Hid (Mut So wd we) := Lib.hid (Mut.of_grown hg2 fun b hb => by rw [HSo.out]; exact (own_lt HO1.out hb).1)
      have HXe : Hid (Ext wV we) := Lib.hid (Below.trans hxd hb2)
      have HO2 := Lib.hid ho2
      have HS2 : Hid (∀ b, (Value.slice A2 m c2).ownBlock = some b → wV.heap.size ≤ b) := Lib.hid fun b hb => (own_lt ho2 hb).1
      clear hr2 ho2 hb2 hg2 hs2 hxd hd
      go_wp2_with (at_builtin; refine wpList_app rfl (.tmp 62) (.tmp 69) 72 72 rfl Hr2.out ?_; simp only [Act.put])
      refine hK _ _ MU.out ?_
      clear hK K
      (try simp only [List.setIfInBounds_toArray, List.set_cons_zero, List.set_cons_succ])
      intro w6 h6
      have hx6 := Ext.trans HXe.out h6
      have hg6 := (Below.block hx6 g gl).trans H3.out.hg
      have F := H3.out.fin (pre' := [.int .i64 N]) (post' := [.int .i64 L]) (v' := .slice A2 m c2) (by decide) (Mut.of_ext hx6) hg6 ((HO2.out.ext h6).mono (Nat.zero_le _)) (fun b hb => .inr (HS2.out b hb))
      have hst := nt_s1 (.slice A2 m c2) hg6
      have hF : To S2 wV (w6.setRow g #[.int .i64 N, .slice A2 m c2, .int .i64 L]) (rcO g N L (l.eraseIdx i)) := F.cast (by show _ = ntOb _ _ [.int .i64 N] [.int .i64 L] g (l.eraseIdx i).length (clcs (l.eraseIdx i)); rw [HLE.out, HM.out, ← HOE.out]; rfl)
      have hng7 : g7 ≠ g := fun e => by subst e; have h1 := HV7.out; rw [H3.out.hg] at h1; simp at h1
      have hng5 : w.heap.size ≠ g := fun e => by have := HGL.out; omega
      have hngA : g10 ≠ g := fun e => by subst e; have h1 := HVA.out; rw [H3.out.hg] at h1; simp at h1
      have h79 := (setRow_other w6 g g7 #[.int .i64 N, .slice A2 m c2, .int .i64 L] hng7).trans ((Below.block hx6 _ (heap_lt HV7.out)).trans HV7.out)
      have h59 := (setRow_other w6 g w.heap.size #[.int .i64 N, .slice A2 m c2, .int .i64 L] hng5).trans ((Below.block hx6 _ (heap_lt HV5.out)).trans HV5.out)
      have hA9 := (setRow_other w6 g g10 #[.int .i64 N, .slice A2 m c2, .int .i64 L] hngA).trans ((Below.block hx6 _ (heap_lt HVA.out)).trans HVA.out)
      have HEN9 := Lib.hid ((HVE.out.ext hx6).set (row' := #[.int .i64 N, .slice A2 m c2, .int .i64 L]) hg6 (by decide))
      have HF := Lib.hid hF
      have ST := Lib.hid hst
      have HB79 := Lib.hid h79
      have HB59 := Lib.hid h59
      have HBA9 := Lib.hid hA9
      have hz8 := heap_lt HV5.out
      obtain ⟨c0, c1, c2', cf, cl⟩ := nt_c2 (l := []) hg6
      clear hst F hF hg6 hx6 h6 HO2 HXe HO1 HXc h79 h59 hA9 HVE
      go_upto_region 14 with fail
      rw [ST.out]
      clear ST c0 c1 c2' cf cl
      generalize w6.setRow g #[.int .i64 N, .slice A2 m c2, .int .i64 L] = w9 at *
      obtain ⟨d0, -, -, -, dl⟩ := nt_c2 (l := []) HB79.out
      have q0 := fun (ψ : World → Prop) (e : ExtP w9.heap.size w9 ψ) => e.cell d0 dl
      have hla := heap_lt HBA9.out
      have LB := Lib.hid fun (w' : World) (k : Ext w9 w') => ldRs ((Below.block k g10 hla).trans HBA9.out)
      clear d0
      refine wp_region_pieces 4  [(true, [0, 1, 2, 3])] (by kernel_rfl) (by kernel_rfl) ?_; simp only [pick, List.map_cons, List.map_nil, List.flatMap_cons, List.flatMap_nil, Option.toList_some, List.singleton_append, List.drop_succ_cons, List.drop_zero, List.getElem?_cons_zero, List.getElem?_cons_succ]
      refine ⟨by kernel_rfl, ?_⟩; apply Exists.intro; refine ⟨fun ψ hψ hne => ?_, ?_⟩
      · iterate 2 (go_big_quiet_step (fail))
        go_big_quiet_want; refine quiet_ld 60 (.tmp 10) rfl (fun w' hw' => LB.out w' (by obtain ⟨e, rfl⟩ := hw'; exact e.ok)) ?_; go_simp; go_big_quiet_on
        go_big_quiet_step (fail)
        exact wpQuiet_nil rfl
      intro wz hz
      have hb5z := (Below.block hz _ (heap_lt HB59.out)).trans HB59.out
      have hs5 := storeRs (y := ({ rs0 with e := AE } : RsT)) (A := none) (n := 0) (c := 0) hb5z
      have HS := Lib.hid hs5
      have HFz := Lib.hid (setRow_heap wz w.heap.size _ (rsC (({ rs0 with e := AE } : RsT)) (.slice none 0 0)).toArray _ _ hb5z)
      have hFz : To S w (wz.setRow w.heap.size (rsC (({ rs0 with e := AE } : RsT)) (.slice none 0 0)).toArray) (rcO g N L (l.eraseIdx i)) :=
        To.beside (To.then_ext HF.out hz) HXV.out (fun i hi => HS2t.out i hi) (Nat.le_refl _) hz8 (mut_setRow (S := fun j => j = w.heap.size) rfl (rsC (({ rs0 with e := AE } : RsT)) (.slice none 0 0)).toArray)
      have FF := Lib.hid hFz
      have HEN : Hid (EnO (wz.setRow w.heap.size (rsC (({ rs0 with e := AE } : RsT)) (.slice none 0 0)).toArray) w.heap.size (.slice none 0 0) (({ rs0 with e := AE } : RsT)).ents) := Lib.hid ((HEN9.out.ext hz).set hb5z (by decide))
      clear hs5 hb5z hFz hz q0 LB
      go_wp2_with (refine wpList_st rfl 60 (.tmp 5) (.tmp 75) rfl HS.out ?_; simp only [Act.put])
      (try simp only [Exit.inBlock, Exit.then])
      exact bodyPost_ret (results_tct Tryz.results26 _ _ _ _ _ _ _ rfl HFz.out Tryz.underlying60 rfl (by kernel_rfl)) rfl ⟨_, rfl, HEN.out, FF.out⟩
  subst hE
  rw [if_pos rfl] at hR
  generalize aH op AL = Z at *
  obtain ⟨X, EX⟩ := Z
  simp only at hR
  have HG : Hid (w.heap[g]? = some (.cells #[.int .i64 N, .slice (some ⟨gs, 0, none⟩) n c, .int .i64 L] 74 (0, 0))) := Lib.hid HN2.out.hg
  clear hlen
  go_enter Tryz.func26, Tryz.ntmps26
  go_upto_region 1 with fail
  rw [← HW1.out]
  generalize w.alloc (.cells (rsC rs0 (.slice none 0 0)).toArray 60) = w1 at *
  have KS1 := Lib.hid (KS.out w1)
  go_upto_region 2 with (first | (go_at_call 44; refine KS1.out.mono ?_; rintro e w2 ⟨rfl, k2⟩) | (refine wpList_st rfl 109 (.tmp 7) (.tmp 16) rfl (new_rs3r _ _ _ _) ?_; simp only [Act.put]))
  have hx2 := extAl w2 (.cells #[.int .i64 AX, .int .i64 0, .string (str AL)] 109)
  have hb7 := heap_alloc_last w2 (.cells #[.int .i64 AX, .int .i64 0, .string (str AL)] 109)
  have k02 := Ext.trans (Ext.trans HX.out k2) hx2
  have HX3 := Lib.hid k02
  have HB7 := Lib.hid hb7
  have HB5 := Lib.hid ((Below.block (Ext.trans (a := w1) k2 hx2) _ (heap_lt HB.out)).trans HB.out)
  have hz7 : w.heap.size < w2.heap.size := Nat.lt_of_lt_of_le (heap_lt HB.out) (Below.size k2)
  clear hx2 hb7 k02 k2 KS KS1 HW1 HX HB
  generalize w2.alloc (.cells #[.int .i64 AX, .int .i64 0, .string (str AL)] 109) = w3 at *
  generalize w2.heap.size = g7 at *
  obtain ⟨d0, d1, d2, -, dl⟩ := nt_c2 (l := []) HB7.out
  have KA3 := Lib.hid (KA.out w3 HX3.out)
  go_wp2_with fail
  refine KA3.out.mono ?_
  rintro e w4 ⟨rfl, k4⟩
  have HX4 := Lib.hid (Ext.trans HX3.out k4)
  have HB74 := Lib.hid ((Below.block k4 _ dl).trans HB7.out)
  have HB54 := Lib.hid ((Below.block k4 _ (heap_lt HB5.out)).trans HB5.out)
  clear d0 d1 d2 dl KA KA3 k4 HB7 HB5 HX3
  obtain ⟨d0, d1, d2, -, dl⟩ := nt_c2 (l := []) HB74.out
  have HNE := Lib.hid (new_rsE w4 0)
  have hxA := extAl w4 (.cells (rsC { rs0 with e := 0 } (.slice none 0 0)).toArray 60)
  have HXA := Lib.hid (Ext.trans HX4.out hxA)
  have HBA := Lib.hid (heap_alloc_last w4 (.cells (rsC { rs0 with e := 0 } (.slice none 0 0)).toArray 60))
  have HB7A := Lib.hid ((Below.block hxA _ (heap_lt HB74.out)).trans HB74.out)
  have HB5A := Lib.hid ((Below.block hxA _ (heap_lt HB54.out)).trans HB54.out)
  have hz10 : w.heap.size < w4.heap.size := heap_lt HB54.out
  go_upto_region 8 with (refine wpList_st rfl 60 (.tmp 10) (.tmp 31) rfl HNE.out ?_; simp only [Act.put]; clear HNE)
  clear d0 d1 d2 dl hxA HX4 HB74 HB54
  generalize w4.alloc (.cells (rsC { rs0 with e := 0 } (.slice none 0 0)).toArray 60) = wA at *
  generalize w4.heap.size = g10 at *
  obtain ⟨d0, d1, d2, -, dl⟩ := nt_c2 (l := []) HB7A.out
  have glt : g < wA.heap.size := Nat.lt_of_lt_of_le (heap_lt HG.out) (Below.size HXA.out)
  obtain ⟨-, cr, -, -, -⟩ := nt_c2 (l := []) ((Below.block HXA.out g (heap_lt HG.out)).trans HG.out)
  have y1 := (Below.cell (p := ⟨gs, 0 + (i * 3 + 1), none⟩) HXA.out hsl).trans Z1.out
  simp only [Nat.zero_add] at y1
  have hsA : gs < wA.heap.size := Nat.lt_of_lt_of_le hsl (Below.size HXA.out)
  go_upto_region 9 with fail
  obtain ⟨So, HSo⟩ : ∃ So : Nat → Prop, Hid (So = fun j => wA.heap.size ≤ j) := ⟨_, Lib.hid rfl⟩
  have hn7 : ¬ So g7 := by rw [HSo.out]; omega
  have hng : ¬ So g := by rw [HSo.out]; omega
  have hngs : ¬ So gs := by rw [HSo.out]; omega
  have q0 : ∀ (ψ : World → Prop) (e : ExtS So wA ψ), e.val.cell? ⟨g7, 2, none⟩ = _ := fun ψ e => e.cell d2 dl hn7
  have q1 : ∀ (ψ : World → Prop) (e : ExtS So wA ψ), e.val.cell? ⟨g, 1, none⟩ = _ := fun ψ e => e.cell cr glt hng
  have q2 : ∀ (ψ : World → Prop) (e : ExtS So wA ψ), e.val.cell? ⟨gs, i * 3 + 1, none⟩ = _ := fun ψ e => e.cell y1 hsA hngs
  clear d0 d1 d2 cr y1
  refine C.wp_region_piecesC So So 16 14 [(true, [0, 1, 2, 3, 4, 5, 6, 7, 8, 9]), (false, [10]), (true, [11, 12, 13])] [(false, [15])] (O := .cells #[.int .i64 0, .int .i64 0, .int .i64 0, .int .i64 0, .int .u8 0, .int .i64 0, .int .i64 0, .int .i64 0, .int .i64 0, .int .i64 0, .int .i64 0, .int .i64 0, .string ⟨#[]⟩, .int .i64 0, .int .i64 0, .int .u64 0, .bool false, .slice none 0 0, .int .u64 0] 60) (by kernel_rfl) (fun _ h => h) (by kernel_rfl) rfl rfl (fun _ _ => by go_simp) ?_
  simp only [pick, List.map_cons, List.map_nil, List.flatMap_cons, List.flatMap_nil, Option.toList_some, List.singleton_append, List.drop_succ_cons, List.drop_zero, List.getElem?_cons_zero, List.getElem?_cons_succ]
  refine ⟨by kernel_rfl, ?_⟩; apply Exists.intro; refine ⟨fun ψ hψ hne => (by (repeat (go_big_quiet_step (( fail )))); exact wpQuiet_nil rfl), ?_⟩
  clear q0 q1 q2
  intro wb hb K hK
  go_wp2_with (go_at_call 45; refine (KH.out _).mono ?_; rintro e w5 ⟨rv, rfl, ho5, k5⟩)
  refine hK _ _ (Mut.of_ext k5) ?_
  clear hK K KH
  refine ⟨by kernel_rfl, ?_⟩; apply Exists.intro; refine ⟨fun ψ hψ hne => (by (repeat (go_big_quiet_step (( fail )))); exact wpQuiet_nil rfl), ?_⟩
  intro wf hf g11 hg11 hO11
  intro w6 h6 K hK
  obtain ⟨A5, c5, rfl⟩ := ho5.form
  have hx6 : Ext wA w6 := Ext.trans (Ext.trans (Ext.trans (a := wA) hb k5) hf) h6
  have hb11 : w6.heap[g11]? = some (.cells (rsC rs0 (.slice none 0 0)).toArray 60 (0, 0)) := Ext.blk h6 hO11
  have hs11 := storeRs (y := X) (A := A5) (n := X.ents.length) (c := c5) hb11
  have HS11 := Lib.hid hs11
  have HMS : Hid (Mut So w6 (w6.setRow g11 (rsC X (.slice A5 X.ents.length c5)).toArray)) := Lib.hid (mut_setRow (by rw [HSo.out]; exact hg11) _)
  have hz6 : w.heap.size ≤ wb.heap.size := Nat.le_trans (Below.size HXA.out) (Below.size hb)
  have HEN8 : Hid (EnO (w6.setRow g11 (rsC X (.slice A5 X.ents.length c5)).toArray) w.heap.size (.slice A5 X.ents.length c5) X.ents) := Lib.hid (((ho5.ext (Ext.trans hf h6)).mono hz6).set hb11 (by decide))
  have HX8 : Hid (Ext wA (w6.setRow g11 (rsC X (.slice A5 X.ents.length c5)).toArray)) := Lib.hid (below_setRow hx6 hg11 _)
  have HB118 := Lib.hid (setRow_heap w6 g11 _ (rsC X (.slice A5 X.ents.length c5)).toArray _ _ hb11)
  go_wp2_with (refine wpList_st rfl 60 (.tmp 11) (.tmp 47) rfl HS11.out ?_; simp only [Act.put])
  refine hK _ _ HMS.out ?_
  clear hs11 hb11 hx6 h6 hf k5 ho5 hb hK K HS11 HMS hO11
  generalize w6.setRow g11 (rsC X (.slice A5 X.ents.length c5)).toArray = w8 at *
  (try simp only [List.setIfInBounds_toArray, List.set_cons_zero, List.set_cons_succ])
  intro w7 h7
  have HXA7 := Lib.hid (Ext.trans HX8.out h7)
  have HX7 := Lib.hid (Ext.trans HXA.out HXA7.out)
  have HEN7 := Lib.hid (HEN8.out.ext h7)
  have HB117 := Lib.hid (Ext.blk h7 HB118.out)
  have HBA7 := Lib.hid (Ext.blk HXA7.out HBA.out)
  have HB77 := Lib.hid (Ext.blk HXA7.out HB7A.out)
  have HB57 := Lib.hid (Ext.blk HXA7.out HB5A.out)
  have hgA : g10 < wA.heap.size := heap_lt HBA.out
  clear h7 HX8 HEN8 HB118 HXA HBA HB7A HB5A HXA7
  by_cases hz : EX = 0
  · subst hz
    rw [if_pos rfl] at hR
    subst hR
    have HLD := Lib.hid (ldRs HB117.out)
    have HSA := Lib.hid (storeRs (y := X) (A := A5) (n := X.ents.length) (c := c5) HBA7.out)
    have HXV : Hid (Ext w (w7.setRow g10 (rsC X (.slice A5 X.ents.length c5)).toArray)) := Lib.hid (below_setRow HX7.out (by omega) _)
    have HVA := Lib.hid (setRow_heap w7 g10 _ (rsC X (.slice A5 X.ents.length c5)).toArray _ _ HBA7.out)
    have HVE : Hid (EnO (w7.setRow g10 (rsC X (.slice A5 X.ents.length c5)).toArray) w.heap.size (.slice A5 X.ents.length c5) X.ents) := Lib.hid (HEN7.out.set HBA7.out (by decide))
    have hne7 : g7 ≠ g10 := fun e => by subst e; have h1 := HBA7.out; rw [HB77.out] at h1; simp at h1
    have HV7 := Lib.hid ((setRow_other w7 g10 g7 (rsC X (.slice A5 X.ents.length c5)).toArray hne7).trans HB77.out)
    have HV5 := Lib.hid ((setRow_other w7 g10 w.heap.size (rsC X (.slice A5 X.ents.length c5)).toArray (by omega)).trans HB57.out)
    go_upto_region 13 with (first | (refine wpList_ld rfl 60 (.tmp 11) rfl HLD.out ?_; simp only [Act.put]; clear HLD) | (refine wpList_st rfl 60 (.tmp 10) (.tmp 53) rfl HSA.out ?_; simp only [Act.put]; clear HSA))
    (try simp only [List.setIfInBounds_toArray, List.set_cons_zero, List.set_cons_succ])
    clear hne7 HBA7 HB77 HB57 HB117 HEN7
    generalize w7.setRow g10 (rsC X (.slice A5 X.ents.length c5)).toArray = wV at *
    have H3 := Lib.hid (HN2.out.ext HXV.out)
    obtain ⟨-, cr, -, -, gl⟩ := nt_c2 (l := []) H3.out.hg
    obtain ⟨So, HSo⟩ : ∃ So : Nat → Prop, Hid (So = fun j => wV.heap.size ≤ j) := ⟨_, Lib.hid rfl⟩
    have hng : ¬ So g := by rw [HSo.out]; omega
    have q0 : ∀ (ψ : World → Prop) (e : ExtS So wV ψ), e.val.cell? ⟨g, 1, none⟩ = some (.slice (some ⟨gs, 0, none⟩) n c) := fun ψ e => e.cell cr gl hng
    have HPre := Lib.hid (HPre0.out.ext HXV.out)
    have HSuf := Lib.hid (HSuf0.out.ext HXV.out)
    clear cr HPre0 HSuf0
    go_upto_region 13 with fail
    refine wp_region_piecesS So 17 [(true, [0, 2, 3, 4, 5, 6, 7, 9, 10, 11, 12, 13, 14, 15]), (false, [1]), (false, [8]), (false, [16])] (by kernel_rfl) (by kernel_rfl) ?_
    by_cases hci : c = i + 1
    · obtain rfl : n = i + 1 := by omega
      subst hci
      have HSn : Hid (RR wV 3 (.slice (some ⟨gs, 0, none⟩) 0 0) 0 ((clcs l).drop ((i + 1) * 3))) := Lib.hid (by
        have h1 := HSuf.out.1
        exact ⟨by rw [h1]; omega, .inl ⟨some ⟨gs, 0, none⟩, 0, rfl, rfl⟩⟩)
      have HLE0 : Hid ((l.eraseIdx i).length = i + 0) := Lib.hid (by rw [HLE.out]; omega)
      clear HLE
      have HLE := HLE0
      clear HLE0
      obtain ⟨m, HM⟩ : ∃ m, Hid (i + 0 = m) := ⟨_, Lib.hid rfl⟩
      simp only [pick, List.map_cons, List.map_nil, List.flatMap_cons, List.flatMap_nil, Option.toList_some, List.singleton_append, List.drop_succ_cons, List.drop_zero, List.getElem?_cons_zero, List.getElem?_cons_succ]
      refine ⟨by kernel_rfl, ?_⟩; apply Exists.intro; refine ⟨fun ψ hψ hne => (by (repeat (go_big_quiet_step (( fail )))); exact wpQuiet_nil rfl), ?_⟩
      clear q0
      intro wa ha K hK
      go_wp2_with fail
      refine hK _ _ (Mut.of_ext (extAl _ _)) ?_
      clear hK K
      intro wb hb K hK
      have hza := Below.size ha
      have hxb : Ext wV wb := Ext.trans (Ext.trans ha (extAl wa _)) hb
      have hgb : wb.heap[wa.heap.size]? = some (.cells #[] 80 (0, 0)) := Ext.blk hb (heap_alloc_last wa _)
      obtain ⟨v1, wc, hr1, ho1, hx1⟩ := appE_rop (tx := 72) (ty := 72) hgb ((HPre.out.ext hxb).src Tryz.underlying72 HPO.out) (B := wV.heap.size) hza HPO.out (by omega)
      obtain ⟨A1, c1, rfl⟩ := ho1.form
      have Hr1 := Lib.hid hr1
      have HX1 := Lib.hid hx1
      have HO1 := Lib.hid ho1
      have HXc := Lib.hid (Ext.trans hxb hx1)
      clear ha hb hxb hgb hr1 hx1 ho1 hza
      go_wp2_with (at_builtin; refine wpList_app rfl (.tmp 55) (.tmp 61) 72 72 rfl Hr1.out ?_; simp only [Act.put])
      refine hK _ _ (Mut.of_ext HX1.out) ?_
      clear hK K
      (try simp only [List.setIfInBounds_toArray, List.set_cons_zero, List.set_cons_succ])
      intro wd hd K hK
      have hxd : Ext wV wd := Ext.trans HXc.out hd
      obtain ⟨v2, we, hr2, ho2, hb2, hg2, hs2⟩ := app_rop (ty := 72) (HO1.out.ext hd) ((HSn.out.ext (Ext.trans HXc.out hd)).src (tx := 72) Tryz.underlying72 HSO.out) (Below.size hxd) HSO.out (by omega)
      rw [HM.out] at ho2
      obtain ⟨A2, c2, rfl⟩ := ho2.form
      have Hr2 := Lib.hid hr2
      have MU : Hid (Mut So wd we) := Lib.hid (Mut.of_grown hg2 fun b hb => by rw [HSo.out]; exact (own_lt HO1.out hb).1)
      have HXe : Hid (Ext wV we) := Lib.hid (Below.trans hxd hb2)
      have HO2 := Lib.hid ho2
      have HS2 : Hid (∀ b, (Value.slice A2 m c2).ownBlock = some b → wV.heap.size ≤ b) := Lib.hid fun b hb => (own_lt ho2 hb).1
      clear hr2 ho2 hb2 hg2 hs2 hxd hd
      go_wp2_with (at_builtin; refine wpList_app rfl (.tmp 62) (.tmp 69) 72 72 rfl Hr2.out ?_; simp only [Act.put])
      refine hK _ _ MU.out ?_
      clear hK K
      (try simp only [List.setIfInBounds_toArray, List.set_cons_zero, List.set_cons_succ])
      intro w6 h6
      have hx6 := Ext.trans HXe.out h6
      have hg6 := (Below.block hx6 g gl).trans H3.out.hg
      have F := H3.out.fin (pre' := [.int .i64 N]) (post' := [.int .i64 L]) (v' := .slice A2 m c2) (by decide) (Mut.of_ext hx6) hg6 ((HO2.out.ext h6).mono (Nat.zero_le _)) (fun b hb => .inr (HS2.out b hb))
      have hst := nt_s1 (.slice A2 m c2) hg6
      have hF : To S2 wV (w6.setRow g #[.int .i64 N, .slice A2 m c2, .int .i64 L]) (rcO g N L (l.eraseIdx i)) := F.cast (by show _ = ntOb _ _ [.int .i64 N] [.int .i64 L] g (l.eraseIdx i).length (clcs (l.eraseIdx i)); rw [HLE.out, HM.out, ← HOE.out]; rfl)
      have hng7 : g7 ≠ g := fun e => by subst e; have h1 := HV7.out; rw [H3.out.hg] at h1; simp at h1
      have hng5 : w.heap.size ≠ g := fun e => by have := HGL.out; omega
      have hngA : g10 ≠ g := fun e => by subst e; have h1 := HVA.out; rw [H3.out.hg] at h1; simp at h1
      have h79 := (setRow_other w6 g g7 #[.int .i64 N, .slice A2 m c2, .int .i64 L] hng7).trans ((Below.block hx6 _ (heap_lt HV7.out)).trans HV7.out)
      have h59 := (setRow_other w6 g w.heap.size #[.int .i64 N, .slice A2 m c2, .int .i64 L] hng5).trans ((Below.block hx6 _ (heap_lt HV5.out)).trans HV5.out)
      have hA9 := (setRow_other w6 g g10 #[.int .i64 N, .slice A2 m c2, .int .i64 L] hngA).trans ((Below.block hx6 _ (heap_lt HVA.out)).trans HVA.out)
      have HEN9 := Lib.hid ((HVE.out.ext hx6).set (row' := #[.int .i64 N, .slice A2 m c2, .int .i64 L]) hg6 (by decide))
      have HF := Lib.hid hF
      have ST := Lib.hid hst
      have HB79 := Lib.hid h79
      have HB59 := Lib.hid h59
      have HBA9 := Lib.hid hA9
      have hz8 := heap_lt HV5.out
      obtain ⟨c0, c1, c2', cf, cl⟩ := nt_c2 (l := []) hg6
      clear hst F hF hg6 hx6 h6 HO2 HXe HO1 HXc h79 h59 hA9 HVE
      go_upto_region 14 with fail
      rw [ST.out]
      clear ST c0 c1 c2' cf cl
      generalize w6.setRow g #[.int .i64 N, .slice A2 m c2, .int .i64 L] = w9 at *
      obtain ⟨d0, -, -, -, dl⟩ := nt_c2 (l := []) HB79.out
      have q0 := fun (ψ : World → Prop) (e : ExtP w9.heap.size w9 ψ) => e.cell d0 dl
      have hla := heap_lt HBA9.out
      have LB := Lib.hid fun (w' : World) (k : Ext w9 w') => ldRs ((Below.block k g10 hla).trans HBA9.out)
      clear d0
      refine wp_region_pieces 4  [(true, [0, 1, 2, 3])] (by kernel_rfl) (by kernel_rfl) ?_; simp only [pick, List.map_cons, List.map_nil, List.flatMap_cons, List.flatMap_nil, Option.toList_some, List.singleton_append, List.drop_succ_cons, List.drop_zero, List.getElem?_cons_zero, List.getElem?_cons_succ]
      refine ⟨by kernel_rfl, ?_⟩; apply Exists.intro; refine ⟨fun ψ hψ hne => ?_, ?_⟩
      · iterate 2 (go_big_quiet_step (fail))
        go_big_quiet_want; refine quiet_ld 60 (.tmp 10) rfl (fun w' hw' => LB.out w' (by obtain ⟨e, rfl⟩ := hw'; exact e.ok)) ?_; go_simp; go_big_quiet_on
        go_big_quiet_step (fail)
        exact wpQuiet_nil rfl
      intro wz hz
      have hb5z := (Below.block hz _ (heap_lt HB59.out)).trans HB59.out
      have hs5 := storeRs (y := X) (A := A5) (n := X.ents.length) (c := c5) hb5z
      have HS := Lib.hid hs5
      have HFz := Lib.hid (setRow_heap wz w.heap.size _ (rsC (X) (.slice A5 X.ents.length c5)).toArray _ _ hb5z)
      have hFz : To S w (wz.setRow w.heap.size (rsC (X) (.slice A5 X.ents.length c5)).toArray) (rcO g N L (l.eraseIdx i)) :=
        To.beside (To.then_ext HF.out hz) HXV.out (fun i hi => HS2t.out i hi) (Nat.le_refl _) hz8 (mut_setRow (S := fun j => j = w.heap.size) rfl (rsC (X) (.slice A5 X.ents.length c5)).toArray)
      have FF := Lib.hid hFz
      have HEN : Hid (EnO (wz.setRow w.heap.size (rsC (X) (.slice A5 X.ents.length c5)).toArray) w.heap.size (.slice A5 X.ents.length c5) (X).ents) := Lib.hid ((HEN9.out.ext hz).set hb5z (by decide))
      clear hs5 hb5z hFz hz q0 LB
      go_wp2_with (refine wpList_st rfl 60 (.tmp 5) (.tmp 75) rfl HS.out ?_; simp only [Act.put])
      (try simp only [Exit.inBlock, Exit.then])
      exact bodyPost_ret (results_tct Tryz.results26 _ _ _ _ _ _ _ rfl HFz.out Tryz.underlying60 rfl (by kernel_rfl)) rfl ⟨_, rfl, HEN.out, FF.out⟩
    · have hci' : ¬ c - (i + 1) = 0 := by omega
      obtain ⟨m, HM⟩ : ∃ m, Hid (i + (n - (i + 1)) = m) := ⟨_, Lib.hid rfl⟩
      simp only [pick, List.map_cons, List.map_nil, List.flatMap_cons, List.flatMap_nil, Option.toList_some, List.singleton_append, List.drop_succ_cons, List.drop_zero, List.getElem?_cons_zero, List.getElem?_cons_succ]
      refine ⟨by kernel_rfl, ?_⟩; apply Exists.intro; refine ⟨fun ψ hψ hne => (by (repeat (go_big_quiet_step (( fail )))); exact wpQuiet_nil rfl), ?_⟩
      clear q0
      intro wa ha K hK
      go_wp2_with fail
      refine hK _ _ (Mut.of_ext (extAl _ _)) ?_
      clear hK K
      intro wb hb K hK
      have hza := Below.size ha
      have hxb : Ext wV wb := Ext.trans (Ext.trans ha (extAl wa _)) hb
      have hgb : wb.heap[wa.heap.size]? = some (.cells #[] 80 (0, 0)) := Ext.blk hb (heap_alloc_last wa _)
      obtain ⟨v1, wc, hr1, ho1, hx1⟩ := appE_rop (tx := 72) (ty := 72) hgb ((HPre.out.ext hxb).src Tryz.underlying72 HPO.out) (B := wV.heap.size) hza HPO.out (by omega)
      obtain ⟨A1, c1, rfl⟩ := ho1.form
      have Hr1 := Lib.hid hr1
      have HX1 := Lib.hid hx1
      have HO1 := Lib.hid ho1
      have HXc := Lib.hid (Ext.trans hxb hx1)
      clear ha hb hxb hgb hr1 hx1 ho1 hza
      go_wp2_with (at_builtin; refine wpList_app rfl (.tmp 55) (.tmp 61) 72 72 rfl Hr1.out ?_; simp only [Act.put])
      refine hK _ _ (Mut.of_ext HX1.out) ?_
      clear hK K
      (try simp only [List.setIfInBounds_toArray, List.set_cons_zero, List.set_cons_succ])
      intro wd hd K hK
      have hxd : Ext wV wd := Ext.trans HXc.out hd
      obtain ⟨v2, we, hr2, ho2, hb2, hg2, hs2⟩ := app_rop (ty := 72) (HO1.out.ext hd) ((HSuf.out.ext (Ext.trans HXc.out hd)).src (tx := 72) Tryz.underlying72 HSO.out) (Below.size hxd) HSO.out (by omega)
      rw [HM.out] at ho2
      obtain ⟨A2, c2, rfl⟩ := ho2.form
      have Hr2 := Lib.hid hr2
      have MU : Hid (Mut So wd we) := Lib.hid (Mut.of_grown hg2 fun b hb => by rw [HSo.out]; exact (own_lt HO1.out hb).1)
      have HXe : Hid (Ext wV we) := Lib.hid (Below.trans hxd hb2)
      have HO2 := Lib.hid ho2
      have HS2 : Hid (∀ b, (Value.slice A2 m c2).ownBlock = some b → wV.heap.size ≤ b) := Lib.hid fun b hb => (own_lt ho2 hb).1
      clear hr2 ho2 hb2 hg2 hs2 hxd hd
      go_wp2_with (at_builtin; refine wpList_app rfl (.tmp 62) (.tmp 69) 72 72 rfl Hr2.out ?_; simp only [Act.put])
      refine hK _ _ MU.out ?_
      clear hK K
      (try simp only [List.setIfInBounds_toArray, List.set_cons_zero, List.set_cons_succ])
      intro w6 h6
      have hx6 := Ext.trans HXe.out h6
      have hg6 := (Below.block hx6 g gl).trans H3.out.hg
      have F := H3.out.fin (pre' := [.int .i64 N]) (post' := [.int .i64 L]) (v' := .slice A2 m c2) (by decide) (Mut.of_ext hx6) hg6 ((HO2.out.ext h6).mono (Nat.zero_le _)) (fun b hb => .inr (HS2.out b hb))
      have hst := nt_s1 (.slice A2 m c2) hg6
      have hF : To S2 wV (w6.setRow g #[.int .i64 N, .slice A2 m c2, .int .i64 L]) (rcO g N L (l.eraseIdx i)) := F.cast (by show _ = ntOb _ _ [.int .i64 N] [.int .i64 L] g (l.eraseIdx i).length (clcs (l.eraseIdx i)); rw [HLE.out, HM.out, ← HOE.out]; rfl)
      have hng7 : g7 ≠ g := fun e => by subst e; have h1 := HV7.out; rw [H3.out.hg] at h1; simp at h1
      have hng5 : w.heap.size ≠ g := fun e => by have := HGL.out; omega
      have hngA : g10 ≠ g := fun e => by subst e; have h1 := HVA.out; rw [H3.out.hg] at h1; simp at h1
      have h79 := (setRow_other w6 g g7 #[.int .i64 N, .slice A2 m c2, .int .i64 L] hng7).trans ((Below.block hx6 _ (heap_lt HV7.out)).trans HV7.out)
      have h59 := (setRow_other w6 g w.heap.size #[.int .i64 N, .slice A2 m c2, .int .i64 L] hng5).trans ((Below.block hx6 _ (heap_lt HV5.out)).trans HV5.out)
      have hA9 := (setRow_other w6 g g10 #[.int .i64 N, .slice A2 m c2, .int .i64 L] hngA).trans ((Below.block hx6 _ (heap_lt HVA.out)).trans HVA.out)
      have HEN9 := Lib.hid ((HVE.out.ext hx6).set (row' := #[.int .i64 N, .slice A2 m c2, .int .i64 L]) hg6 (by decide))
      have HF := Lib.hid hF
      have ST := Lib.hid hst
      have HB79 := Lib.hid h79
      have HB59 := Lib.hid h59
      have HBA9 := Lib.hid hA9
      have hz8 := heap_lt HV5.out
      obtain ⟨c0, c1, c2', cf, cl⟩ := nt_c2 (l := []) hg6
      clear hst F hF hg6 hx6 h6 HO2 HXe HO1 HXc h79 h59 hA9 HVE
      go_upto_region 14 with fail
      rw [ST.out]
      clear ST c0 c1 c2' cf cl
      generalize w6.setRow g #[.int .i64 N, .slice A2 m c2, .int .i64 L] = w9 at *
      obtain ⟨d0, -, -, -, dl⟩ := nt_c2 (l := []) HB79.out
      have q0 := fun (ψ : World → Prop) (e : ExtP w9.heap.size w9 ψ) => e.cell d0 dl
      have hla := heap_lt HBA9.out
      have LB := Lib.hid fun (w' : World) (k : Ext w9 w') => ldRs ((Below.block k g10 hla).trans HBA9.out)
      clear d0
      refine wp_region_pieces 4  [(true, [0, 1, 2, 3])] (by kernel_rfl) (by kernel_rfl) ?_; simp only [pick, List.map_cons, List.map_nil, List.flatMap_cons, List.flatMap_nil, Option.toList_some, List.singleton_append, List.drop_succ_cons, List.drop_zero, List.getElem?_cons_zero, List.getElem?_cons_succ]
      refine ⟨by kernel_rfl, ?_⟩; apply Exists.intro; refine ⟨fun ψ hψ hne => ?_, ?_⟩
      · iterate 2 (go_big_quiet_step (fail))
        go_big_quiet_want; refine quiet_ld 60 (.tmp 10) rfl (fun w' hw' => LB.out w' (by obtain ⟨e, rfl⟩ := hw'; exact e.ok)) ?_; go_simp; go_big_quiet_on
        go_big_quiet_step (fail)
        exact wpQuiet_nil rfl
      intro wz hz
      have hb5z := (Below.block hz _ (heap_lt HB59.out)).trans HB59.out
      have hs5 := storeRs (y := X) (A := A5) (n := X.ents.length) (c := c5) hb5z
      have HS := Lib.hid hs5
      have HFz := Lib.hid (setRow_heap wz w.heap.size _ (rsC (X) (.slice A5 X.ents.length c5)).toArray _ _ hb5z)
      have hFz : To S w (wz.setRow w.heap.size (rsC (X) (.slice A5 X.ents.length c5)).toArray) (rcO g N L (l.eraseIdx i)) :=
        To.beside (To.then_ext HF.out hz) HXV.out (fun i hi => HS2t.out i hi) (Nat.le_refl _) hz8 (mut_setRow (S := fun j => j = w.heap.size) rfl (rsC (X) (.slice A5 X.ents.length c5)).toArray)
      have FF := Lib.hid hFz
      have HEN : Hid (EnO (wz.setRow w.heap.size (rsC (X) (.slice A5 X.ents.length c5)).toArray) w.heap.size (.slice A5 X.ents.length c5) (X).ents) := Lib.hid ((HEN9.out.ext hz).set hb5z (by decide))
      clear hs5 hb5z hFz hz q0 LB
      go_wp2_with (refine wpList_st rfl 60 (.tmp 5) (.tmp 75) rfl HS.out ?_; simp only [Act.put])
      (try simp only [Exit.inBlock, Exit.then])
      exact bodyPost_ret (results_tct Tryz.results26 _ _ _ _ _ _ _ rfl HFz.out Tryz.underlying60 rfl (by kernel_rfl)) rfl ⟨_, rfl, HEN.out, FF.out⟩
  · rw [if_neg hz] at hR
    subst hR
    have z1 : (EX == 0) = false := beq_eq_false_iff_ne.2 hz
    have hs5 := storeRsZ (HB57.out)
    have HS := Lib.hid hs5
    have HF := Lib.hid (setRow_heap w7 w.heap.size _ (rsC rs0 (.slice none 0 0)).toArray _ _ (HB57.out))
    have HE : Hid (Ext w (w7.setRow w.heap.size (rsC rs0 (.slice none 0 0)).toArray)) := Lib.hid (below_setRow (HX7.out) (Nat.le_refl _) _)
    have FF := Lib.hid (To.of_ext hh.out HE.out)
    clear hs5 HE
    go_wp2_with (refine wpList_st rfl 60 (.tmp 5) (.tmp 51) rfl HS.out ?_; simp only [Act.put])
    (try simp only [Exit.inBlock, Exit.then])
    exact bodyPost_ret (results_tct Tryz.results26 _ _ _ _ _ _ _ rfl HF.out Tryz.underlying60 rfl (by kernel_rfl)) rfl ⟨.slice none 0 0, rfl, OwnR.nil, FF.out⟩
end

section
set_option linter.unusedVariables false
set_option maxRecDepth 100000
open Go.RowKit

section
variable {W w : World} {ds : List (Ob Z0)} {g g' : Nat} {N L : Int} {l : List Cl}
theorem rNewO_yes (h : OSt W ds w) (n : Int) (hn : ¬ (n < 1 ∨ 16 < n)) : Calls Tryz.prog 6 #[.int .i64 n] w fun e w' => ∃ g, e = .returned (.tuple #[.pointer (some ⟨g, 0, none⟩), .int .i64 0]) ∧ OSt W (rcO g n 0 [] :: ds) w' :=
  (rNewC_yes n hn w).mono fun e w' ⟨g, he, hi, hx⟩ => ⟨g, he, h.pushN hx hi⟩
theorem rNewO_no (h : OSt W ds w) (n : Int) (hn : n < 1 ∨ 16 < n) : Calls Tryz.prog 6 #[.int .i64 n] w fun e w' => e = .returned (.tuple #[.pointer none, .int .i64 1]) ∧ OSt W ds w' :=
  (rNewC_no n hn w).mono fun e w' ⟨he, hx⟩ => ⟨he, h.ext hx⟩
theorem rCallO (i : Nat) (h : OSt W ds w) (hi : ds[i]? = some (rcO g N L l)) (p : Int) (a : AgT) (hn : l.length ≤ 1000) (hp : I64 p) (hk : a.Ok) (hL : 0 ≤ L ∧ L ≤ 1000000) :
    Calls Tryz.prog 24 #[.pointer (some ⟨g, 0, none⟩), .int .i64 p, .agg (agC a).toArray] w fun e w' => e = .returned (.tuple #[.string (str (callR N L l p a).r.1), .int .i64 (callR N L l p a).r.2]) ∧ OSt W (ds.set i (rcO g N (callR N L l p a).L (callR N L l p a).l)) w' := by
  obtain ⟨S, h1, _, h3, _⟩ := h.pick hi
  exact (rcCall_any p a w h1 hn hp hk hL).mono fun e w' ⟨he, hT⟩ => ⟨he, h3 w' _ hT⟩
theorem rAgainO (i : Nat) (h : OSt W ds w) (hi : ds[i]? = some (rcO g N L l)) (n : Int) (hn : l.length ≤ 1000) :
    Calls Tryz.prog 25 #[.pointer (some ⟨g, 0, none⟩), .int .i64 n] w fun e w' => e = .returned (.tuple #[.string (str (againR l n).1), .int .i64 (againR l n).2]) ∧ OSt W ds w' := by
  obtain ⟨S, h1, _⟩ := h.pick hi
  exact (rcAgain_any n w h1 hn).mono fun e w' ⟨he, hx⟩ => ⟨he, h.ext hx⟩
theorem rHearO (i : Nat) (h : OSt W ds w) (hi : ds[i]? = some (rcO g N L l)) (s : List UInt8) (hn : l.length ≤ 1000) (hs : s.length ≤ 10000) (hpo : ∀ o ∈ l, I64 o.p) :
    Calls Tryz.prog 26 #[.pointer (some ⟨g, 0, none⟩), .string (str s)] w fun e w' => ∃ rv, e = .returned (.tuple #[.int .i64 (hearR l s).n, .agg (rsC (hearR l s).x rv).toArray, .int .i64 (hearR l s).e]) ∧
      OSt W (ownOb 113 3 rv (hearR l s).x.ents.length ((hearR l s).x.ents.flatMap enC) :: ds.set i (rcO g N L (hearR l s).l)) w' := by
  obtain ⟨S, h1, _, _, h4⟩ := h.pick hi
  refine (rcHear_any s w h1 hn hs hpo).mono ?_
  rintro e w' ⟨rv, he, ho, hT⟩
  have ho' : OwnR w' w.heap.size 113 3 One rv (hearR l s).x.ents.length ((hearR l s).x.ents.flatMap enC) := OwnR.toC ho fun u hu => hu.2
  exact ⟨rv, he, h4 w' _ (ownOb 113 3 rv (hearR l s).x.ents.length ((hearR l s).x.ents.flatMap enC)) (fun b => rv.ownBlock = some b) hT ⟨ho'.mono (Nat.zero_le _), fun b hb => hb⟩ fun k hk => ⟨(own_lt ho' hk).1, own_nt ho' hk (by decide) (by decide)⟩⟩
theorem rCopyO (i : Nat) (h : OSt W ds w) (hi : ds[i]? = some (rcO g N L l)) (hn : l.length ≤ 1000) : Calls Tryz.prog 8 #[.pointer (some ⟨g, 0, none⟩)] w fun e w' => ∃ g', e = .returned (.pointer (some ⟨g', 0, none⟩)) ∧ OSt W (rcO g' N L l :: ds) w' := by
  obtain ⟨S, h1, _⟩ := h.pick hi
  exact (rcCopy_any w h1 hn).mono fun e w' ⟨g', he, hi, hx⟩ => ⟨g', he, h.pushN hx hi⟩
/-- The row of the document's client. -/
theorem OSt.rcl (i : Nat) (h : OSt W ds w) (hi : ds[i]? = some (rcO g N L l)) : ∃ A c, w.cell? ⟨g, 1, none⟩ = some (.slice A l.length c) ∧ g < w.heap.size ∧ RR w 3 (.slice A l.length c) l.length (clcs l) := by
  obtain ⟨S, ⟨v, h1⟩, _⟩ := h.pick hi
  obtain ⟨A, c, rfl⟩ := h1.row.form
  obtain ⟨-, cr, -, -, gl⟩ := nt_c2 (l := []) h1.hg
  exact ⟨A, c, cr, gl, h1.row.rr (by decide)⟩
theorem OSt.appI {n : Nat} {v : Value} {cs : List Value} (h : OSt W ds w) (i : Nat) (hi : ds[i]? = some (ownOb 3 1 v n cs)) (x : Int) (hn : n ≤ 1000000) :
    ∃ v' w', (Builtin.append_ #[64, 64] 64 #[v, .slice (some ⟨w.heap.size, 0, none⟩) 1 1]).run Tryz.prog (w.alloc (.cells #[.int .i64 x] 3)) = .ok v' w' ∧ OSt W (ds.set i (ownOb 3 1 v' (n + 1) (cs ++ [.int .i64 x]))) w' := by
  have a := extAl w (.cells #[.int .i64 x] 3)
  obtain ⟨S, h1, _, h3, _⟩ := (h.ext a).pick hi
  have hsrc : Src Tryz.prog 1 64 (.slice (some ⟨w.heap.size, 0, none⟩) 1 1) 1 [.int .i64 x] (w.alloc (.cells #[.int .i64 x] 3)) := src_row Tryz.underlying64 (heap_alloc_last w _) rfl (by intro u hu; simp at hu; subst hu; rfl)
  obtain ⟨v', w', hr, ho2, hb2, hg2, hs2⟩ := app_intN (ty := 64) h1.1 hsrc (Nat.zero_le _) (by intro u hu; simp at hu; subst hu; rfl) (by omega)
  refine ⟨v', w', hr, h3 _ _ ⟨⟨ho2, fun b hb => ?_⟩, Mut.of_grown hg2 h1.2⟩⟩
  rcases hs2 b hb with e | e
  · exact .inl (h1.2 b e)
  · exact .inr ⟨e, (own_lt ho2 hb).2⟩
end
theorem same16_t (l : List Int) {u v : Value} (w : World) (hu : RR w 1 u l.length (ics l)) (hv : RR w 1 v l.length (ics l)) (hl : l.length ≤ 1000) :
    Calls Tryz.prog 28 #[u, v] w fun e w' => e = .returned (.bool true) ∧ Ext w w' := by
  obtain ⟨A, c, rfl⟩ := hu.form
  obtain ⟨A2, c2, rfl⟩ := hv.form
  have HU := Lib.hid hu
  have HV := Lib.hid hv
  clear hu hv
  go_enter Tryz.func28, Tryz.ntmps28
  go_wp2
  go_loopw [5] (fun s wr => ∃ k : Nat, k ≤ l.length ∧ s = .int .i64 k ∧ Hid (Ext w wr)) (fun s _ => l.length - (intOf s).toNat)
  case atStart => exact ⟨0, Nat.zero_le _, rfl, Lib.hid (Ext.refl w)⟩
  case round =>
    obtain ⟨k, hk, rfl, HW⟩ := hrel
    by_cases hlt : k < l.length
    · obtain ⟨b, off, rfl, hb, hc, hj⟩ := (HU.out.ext HW.out).at (by omega)
      obtain ⟨b2, off2, rfl, hb2, hc2, hj2⟩ := (HV.out.ext HW.out).at (by omega)
      have h0 : wr.cell? ⟨b, off + k, none⟩ = some (.int .i64 l[k]) := by rw [hj k (by rw [ics_length]; exact hlt)]; simp [ics]
      have h2 : wr.cell? ⟨b2, off2 + k, none⟩ = some (.int .i64 l[k]) := by rw [hj2 k (by rw [ics_length]; exact hlt)]; simp [ics]
      generalize l[k] = x at *
      have e0 := fun (ψ : World → Prop) (e : ExtP wr.heap.size wr ψ) => e.cell h0 hb
      have e2 := fun (ψ : World → Prop) (e : ExtP wr.heap.size wr ψ) => e.cell h2 hb2
      clear hj hj2 h0 h2
      go_upto_region 6 with fail
      refine wp_region_pieces 9  [(true, [0, 1, 2, 3, 4, 5, 6, 7, 8])] (by kernel_rfl) (by kernel_rfl) ?_; simp only [pick, List.map_cons, List.map_nil, List.flatMap_cons, List.flatMap_nil, Option.toList_some, List.singleton_append, List.drop_succ_cons, List.drop_zero, List.getElem?_cons_zero, List.getElem?_cons_succ]
      refine ⟨by kernel_rfl, ?_⟩; apply Exists.intro; refine ⟨fun ψ hψ hne => (by (repeat (go_big_quiet_step (( fail )))); exact wpQuiet_nil rfl), ?_⟩
      clear e0 e2
      intro w1 h1
      have HW1 := Lib.hid (Ext.trans HW.out h1)
      clear h1
      go_wp2_with fail
      go_roundw
      case rel => exact ⟨k + 1, by omega, by go_num, HW1⟩
      case measure => simp [intOf]; omega
    · obtain rfl : k = l.length := by omega
      go_wp2
      go_ret
      exact ⟨rfl, HW.out⟩
section
variable {W w : World} {ds : List (Ob Z0)} {g g' : Nat} {N L : Int} {l : List Cl}
set_option maxHeartbeats 4000000 in
theorem nopen_any (i j : Nat) (h : OSt W ds w) (hi : ds[i]? = some (clO g N L l)) (hj : ds[j]? = some (rcO g' N L l)) (hl : l.length ≤ 100) :
    Calls Tryz.prog 10 #[.pointer (some ⟨g, 0, none⟩), .pointer (some ⟨g', 0, none⟩)] w fun r w' => r = .returned (.bool true) ∧ OSt W ds w' := by
  have HI := Lib.hid hi
  have HJ := Lib.hid hj
  have H0 : Hid (OSt W (ownOb 3 1 (.slice none 0 0) 0 (ics ((l.take 0).map (·.x))) :: ds) w) := Lib.hid (h.ownNil 3 1)
  obtain ⟨n, hnn⟩ : ∃ n, l.length = n := ⟨_, rfl⟩
  have HN := Lib.hid hnn
  rw [hnn] at hl
  clear h hi hj hnn
  go_enter Tryz.func10, Tryz.ntmps10
  go_wp2
  go_loopg [5, 6] n (fun gg u s wr => ∃ (k : Nat) (A : Option Addr) (c : Nat), k ≤ n ∧ n - k ≤ gg ∧ s = .int .i64 k ∧ u = .slice A k c ∧ Hid (OSt W (ownOb 3 1 (.slice A k c) k (ics ((l.take k).map (·.x))) :: ds) wr))
  case atStart => exact ⟨0, none, 0, Nat.zero_le _, by omega, rfl, rfl, H0⟩
  case round =>
    clear H0
    obtain ⟨k, A, c, hk, hg, rfl, rfl, H⟩ := hrel
    obtain ⟨A3, c3, cr, gl, hrr⟩ := H.out.rcl (j + 1) HJ.out
    by_cases hlt : k < n
    · obtain ⟨x, hx⟩ : ∃ x, l[k]? = some x := ⟨_, List.getElem?_eq_getElem (by rw [HN.out]; exact hlt)⟩
      obtain ⟨gs, off, rfl, hsl, hnc, -⟩ := hrr.at (by rw [HN.out]; omega)
      have z0 := RR.cellAt (enc := clC) hrr clC_len hx (i := 0) rfl
      rw [← Nat.add_assoc] at z0
      simp only [Nat.add_zero] at z0
      rw [HN.out] at cr hnc
      obtain ⟨v', w', hr, ho⟩ := H.out.appI 0 rfl x.x (by omega)
      obtain ⟨A', c', hf⟩ := (ho.own 0 rfl).form
      subst hf
      have Hr := Lib.hid hr
      have H2 : Hid (OSt W (ownOb 3 1 (.slice A' (k + 1) c') (k + 1) (ics ((l.take (k + 1)).map (·.x))) :: ds) w') := Lib.hid (by
        rw [List.take_add_one, hx, List.map_append, ics_app]
        exact ho)
      clear hrr hr ho hx H
      go_wp2_with (at_builtin; refine wpList_app rfl (.tmp 19) (.tmp 28) 64 64 rfl Hr.out ?_; simp only [Act.put])
      go_roundg (n - (k + 1))
      case measure => omega
      case rel => exact ⟨k + 1, A', c', by omega, by omega, by go_num, rfl, H2⟩
    · obtain rfl : k = n := by omega
      rw [HN.out] at cr
      have HX : Hid ((l.take k).map (·.x) = l.map (·.x)) := Lib.hid (by rw [List.take_of_length_le (by rw [HN.out]; exact Nat.le_refl _)])
      rw [HX.out] at H
      have KO := Lib.hid (cOpenO (i + 1) H.out HI.out (by rw [HN.out]; omega))
      clear hrr
      go_wp2_with fail
      refine KO.out.mono ?_
      rintro e w4 ⟨v4, rfl, h4⟩
      rw [HN.out] at h4
      obtain ⟨A4, c4, hf⟩ := (h4.own 0 rfl).form
      subst hf
      have H4 := Lib.hid h4
      have hlx : (l.map (·.x)).length = k := by rw [List.length_map, HN.out]
      have r4 := (H4.out.own 0 rfl).rr (by decide)
      have r1 := (H4.out.own 1 rfl).rr (by decide)
      have KS := same16_t (l.map (·.x)) w4 (u := .slice A4 k c4) (v := .slice A k c) (by rw [hlx]; exact r4) (by rw [hlx]; exact r1) (by rw [hlx]; omega)
      have KS' := Lib.hid KS
      clear h4 KO H cr gl KS r4 r1 hlx
      go_wp2_with fail
      refine KS'.out.mono ?_
      rintro e w5 ⟨rfl, h5⟩
      have H5 : Hid (∃ cs : List Value, OSt W (ownOb 3 1 (.slice A4 k c4) k cs :: ownOb 3 1 (.slice A k c) k (ics (l.map (·.x))) :: ds) w5) := Lib.hid ⟨_, H4.out.ext h5⟩
      clear h5 H4 KS'
      go_wp2_with fail
      go_loopg [9] k (fun gg s wr => ∃ m : Nat, m ≤ k ∧ k - m ≤ gg ∧ s = .int .i64 m ∧ Hid (∃ cs : List Value, OSt W (ownOb 3 1 (.slice A4 k c4) k cs :: ownOb 3 1 (.slice A k c) k (ics (l.map (·.x))) :: ds) wr))
      case atStart => exact ⟨0, Nat.zero_le _, by omega, rfl, H5⟩
      case round =>
        clear H5
        obtain ⟨m, hm, hg2, rfl, H⟩ := hrel
        obtain ⟨cs, hO⟩ := H.out
        by_cases hlm : m < k
        · have ho := hO.own 0 rfl
          have hlen := ho.1
          obtain ⟨b, hAb, -, hbl, hbc, hbj⟩ := ho.cells (by omega)
          subst hAb
          have hbc' := hbc (by decide)
          have hml : m < cs.length := by omega
          have y0 := hbj m hml
          have HS := Lib.hid (hO.setOwn 0 rfl hml (x := .int .i64 (-7)) rfl)
          have fz : ∀ o, wr.frozen? ⟨b, o, none⟩ = false := by
            obtain ⟨cs', hc'⟩ := ownR_blk ho (b := b) (by simp [Value.ownBlock])
            exact fun o => by simp [World.frozen?, hc']
          have HS2 : Hid (∃ cs : List Value, OSt W (ownOb 3 1 (.slice (some ⟨b, 0, none⟩) k c4) k cs :: ownOb 3 1 (.slice A k c) k (ics (l.map (·.x))) :: ds) (wr.setCell ⟨b, m, none⟩ (.int .i64 (-7)))) := Lib.hid ⟨_, HS.out⟩
          clear hO ho hbj HS H
          go_wp2_with fail
          go_roundg (k - (m + 1))
          case measure => omega
          case rel => exact ⟨m + 1, by omega, by omega, by go_num, HS2⟩
        · obtain rfl : m = k := by omega
          have FF := Lib.hid ((hO.dropI 0).dropI 0)
          clear hO H
          go_wp2
          go_ret
          exact ⟨rfl, FF.out⟩
end
end

section
set_option linter.unusedVariables false
set_option maxRecDepth 100000
open Go.RowKit

theorem nz0c {o : Obj} : ¬ Z0 o := fun h => h
theorem askBox {w : World} {b : Nat} {x : AskE} {T : TypeId} (h : w.heap[b]? = some (.cells (askC x).toArray T (0, 0))) :
    w.cell? ⟨b, 0, none⟩ = some (.int .u8 x.k) ∧ w.cell? ⟨b, 1, none⟩ = some (.int .i64 x.n) ∧ w.cell? ⟨b, 18, none⟩ = some (.string (str x.t)) ∧ b < w.heap.size ∧ ∀ j (hj : j < (agC x.a).length), w.cell? ⟨b, 2 + j, none⟩ = some (agC x.a)[j] := by
  refine ⟨by simp [World.cell?, h, askC], by simp [World.cell?, h, askC], by simp [World.cell?, h, askC, agC], heap_lt h, fun j hj => ?_⟩
  rw [cell_of_row _ _ _ _ _ _ h, List.getElem?_toArray, show 2 + j = j + 2 by omega]
  show (agC x.a ++ [.string (str x.t)])[j]? = _
  rw [List.getElem?_append_left hj, List.getElem?_eq_getElem hj]
theorem ldAsk {w : World} {b : Nat} {x : AskE} {T : TypeId} (h : w.heap[b]? = some (.cells (askC x).toArray T (0, 0))) :
    (Instr.loadAt 28 (.pointer (some ⟨b, 2, none⟩))).run Tryz.prog w = .ok (.agg (agC x.a).toArray) w :=
  loadAt_cs (P := Tryz.prog) Tryz.underlying28 (by kernel_rfl) (askBox h).2.2.2.2
theorem hear_ents (l : List Cl) (s : List UInt8) : (hearR l s).x.ents.length ≤ 64 := by
  unfold hearR
  split
  · exact Nat.zero_le _
  · split
    · exact Nat.zero_le _
    · split
      · exact Nat.zero_le _
      · unfold hearB
        split
        · split
          · rw [aH_rH]
            exact rH_ents _ _
          · exact Nat.zero_le _
        · exact Nat.zero_le _
theorem new_rsAc (w : World) (x : RsT) (A : Option Addr) (n c : Nat) : (Instr.storeAt 60 (.pointer (some ⟨w.heap.size, 0, none⟩)) (.agg (rsC x (.slice A n c)).toArray)).run Tryz.prog (w.alloc (.cells #[.int .i64 0, .int .i64 0, .int .i64 0, .int .i64 0, .int .u8 0, .int .i64 0, .int .i64 0, .int .i64 0, .int .i64 0, .int .i64 0, .int .i64 0, .int .i64 0, .string ⟨#[]⟩, .int .i64 0, .int .i64 0, .int .u64 0, .bool false, .slice none 0 0, .int .u64 0] 60)) = .ok () (w.alloc (.cells (rsC x (.slice A n c)).toArray 60)) := by
  have h : (w.alloc (.cells (rsC rs0 (.slice none 0 0)).toArray 60)).heap[w.heap.size]? = some (.cells (rsC rs0 (.slice none 0 0)).toArray 60 (0, 0)) := heap_alloc_last w _
  have := storeRs (y := x) (A := A) (n := n) (c := c) h
  rw [World.setRow_alloc_new] at this
  exact this
def stepC (N : Int) (st : Int × List Cl) (x : AskE) : Int × List Cl :=
  if x.k = 0 then ((callR N st.1 st.2 x.n x.a).L, (callR N st.1 st.2 x.n x.a).l) else if x.k = 1 then st else (st.1, (hearR st.2 x.t).l)
section
variable {W w : World} {ds : List (Ob Z0)} {g g' : Nat} {N L : Int} {l : List Cl}
set_option maxHeartbeats 4000000 in
theorem adoCall (i j : Nat) (hij : i ≠ j) (h : OSt W ds w) (hi : ds[i]? = some (clO g N L l)) (hj : ds[j]? = some (rcO g' N L l)) (x : AskE) (hl : l.length ≤ 100) (hL : 0 ≤ L ∧ L ≤ 1000) (hn : I64 x.n) (ha : x.a.Ok) (hk : x.k = 0) :
    Calls Tryz.prog 9 #[.agg (askC x).toArray, .pointer (some ⟨g, 0, none⟩), .pointer (some ⟨g', 0, none⟩)] w fun r w' => r = .returned (.bool true) ∧ OSt W ((ds.set i (clO g N (stepC N (L, l) x).1 (stepC N (L, l) x).2)).set j (rcO g' N (stepC N (L, l) x).1 (stepC N (L, l) x).2)) w' := by
  obtain ⟨k, n, a, t⟩ := x
  simp only at hk hn ha ⊢
  subst hk
  have HA := Lib.hid (h.alloc (.cells (askC ⟨0, n, a, t⟩).toArray 30 (0, 0)) nz0c)
  have HI : Hid (ds[i]? = some (clO g N L l)) := Lib.hid hi
  have HJ : Hid (∀ L' l', (ds.set i (clO g N L' l'))[j]? = some (rcO g' N L l)) := Lib.hid fun L' l' => by
    rw [List.getElem?_set_ne hij]
    exact hj
  have HJ0 : Hid (ds[j]? = some (rcO g' N L l)) := Lib.hid hj
  obtain ⟨x0, x1, x18, xl, -⟩ := askBox (x := ⟨0, n, a, t⟩) (HA.out.get 0 rfl)
  simp only at x0 x1 x18
  clear h hi hj hij
  have e : stepC N (L, l) ⟨0, n, a, t⟩ = ((callR N L l n a).L, (callR N L l n a).l) := rfl
  rw [e]
  have KC := Lib.hid (cCallO (i + 1) HA.out HI.out n a (by omega) hn ha (by omega))
  have KR := Lib.hid fun (ds' : List (Ob Z0)) (w' : World) (h' : OSt W ds' w') (hj' : ds'[j + 1]? = some (rcO g' N L l)) => rCallO (j + 1) h' hj' n a (by omega) hn ha (by omega)
  have HLD := Lib.hid (ldAsk (x := ⟨0, n, a, t⟩) (HA.out.get 0 rfl))
  generalize callR N L l n a = R at *
  obtain ⟨⟨S, E⟩, L', l'⟩ := R
  simp only at KC KR HLD ⊢
  generalize str S = SB at *
  clear e hn ha hl hL
  go_enter Tryz.func9, Tryz.ntmps9
  go_upto_region 1 with fail
  generalize w.alloc (.cells (askC ⟨0, n, a, t⟩).toArray 30) = w1 at *
  generalize w.heap.size = gb at *
  go_wp2_with (refine wpList_ld rfl 28 (.tmp 29) rfl HLD.out ?_; simp only [Act.put])
  refine KC.out.mono ?_
  rintro e w2 ⟨rfl, h2⟩
  have H2 : Hid (OSt W (rowOb gb (.cells (askC ⟨0, n, a, t⟩).toArray 30 (0, 0)) nz0c :: ds.set i (clO g N L' l')) w2) := Lib.hid h2
  clear h2 KC HA x0 x1 x18 xl HLD
  obtain ⟨x0, x1, x18, xl, -⟩ := askBox (x := ⟨0, n, a, t⟩) (H2.out.get 0 rfl)
  simp only at x0 x1 x18
  have HLD := Lib.hid (ldAsk (x := ⟨0, n, a, t⟩) (H2.out.get 0 rfl))
  have KR2 := Lib.hid (KR.out _ _ H2.out (HJ.out L' l'))
  clear KR
  go_wp2_with (refine wpList_ld rfl 28 (.tmp 38) rfl HLD.out ?_; simp only [Act.put])
  refine KR2.out.mono ?_
  rintro e w4 ⟨rfl, h4⟩
  have H4 : Hid (OSt W (rowOb gb (.cells (askC ⟨0, n, a, t⟩).toArray 30 (0, 0)) nz0c :: (ds.set i (clO g N L' l')).set j (rcO g' N L' l')) w4) := Lib.hid h4
  clear h4 KR2 H2 x0 x1 x18 xl HLD
  go_wp2_with fail
  go_ret
  exact ⟨by simp, H4.out.dropI 0⟩
set_option maxHeartbeats 4000000 in
theorem adoAgain (i j : Nat) (hij : i ≠ j) (h : OSt W ds w) (hi : ds[i]? = some (clO g N L l)) (hj : ds[j]? = some (rcO g' N L l)) (x : AskE) (hl : l.length ≤ 100) (hk : x.k = 1) :
    Calls Tryz.prog 9 #[.agg (askC x).toArray, .pointer (some ⟨g, 0, none⟩), .pointer (some ⟨g', 0, none⟩)] w fun r w' => r = .returned (.bool true) ∧ OSt W ds w' := by
  obtain ⟨k, n, a, t⟩ := x
  simp only at hk hl ⊢
  subst hk
  have HA := Lib.hid (h.alloc (.cells (askC ⟨1, n, a, t⟩).toArray 30 (0, 0)) nz0c)
  have HI : Hid (ds[i]? = some (clO g N L l)) := Lib.hid hi
  have HJ : Hid (∀ L' l', (ds.set i (clO g N L' l'))[j]? = some (rcO g' N L l)) := Lib.hid fun L' l' => by
    rw [List.getElem?_set_ne hij]
    exact hj
  have HJ0 : Hid (ds[j]? = some (rcO g' N L l)) := Lib.hid hj
  obtain ⟨x0, x1, x18, xl, -⟩ := askBox (x := ⟨1, n, a, t⟩) (HA.out.get 0 rfl)
  simp only at x0 x1 x18
  clear h hi hj hij
  have KC := Lib.hid (cAgainO (i + 1) HA.out HI.out n (by omega))
  have KR := Lib.hid fun (ds' : List (Ob Z0)) (w' : World) (h' : OSt W ds' w') (hj' : ds'[j + 1]? = some (rcO g' N L l)) => rAgainO (j + 1) h' hj' n (by omega)
  generalize againR l n = R at *
  obtain ⟨S, E⟩ := R
  simp only at KC KR
  generalize str S = SB at *
  clear hl
  go_enter Tryz.func9, Tryz.ntmps9
  go_upto_region 1 with fail
  generalize w.alloc (.cells (askC ⟨1, n, a, t⟩).toArray 30) = w1 at *
  generalize w.heap.size = gb at *
  go_wp2_with fail
  refine KC.out.mono ?_
  rintro e w2 ⟨rfl, h2⟩
  have H2 : Hid (OSt W (rowOb gb (.cells (askC ⟨1, n, a, t⟩).toArray 30 (0, 0)) nz0c :: ds) w2) := Lib.hid h2
  clear h2 KC HA x0 x1 x18 xl
  obtain ⟨x0, x1, x18, xl, -⟩ := askBox (x := ⟨1, n, a, t⟩) (H2.out.get 0 rfl)
  simp only at x0 x1 x18
  have KR2 := Lib.hid (KR.out _ _ H2.out HJ0.out)
  clear KR
  go_wp2_with fail
  refine KR2.out.mono ?_
  rintro e w4 ⟨rfl, h4⟩
  have H4 : Hid (OSt W (rowOb gb (.cells (askC ⟨1, n, a, t⟩).toArray 30 (0, 0)) nz0c :: ds) w4) := Lib.hid h4
  clear h4 KR2 H2 x0 x1 x18 xl
  go_wp2_with fail
  go_ret
  exact ⟨by simp, H4.out.dropI 0⟩
end
end

section
set_option linter.unusedVariables false
set_option maxRecDepth 100000
open Go.RowKit

theorem wpList_ldgN {P : Program} {ops : Array Oper} {rest : List Oper} {o : Oper} {a : Act} {w : World} {Q : Exit → Act → World → Prop} (ty : TypeId) (x : Operand) (ho : o.op = .load ty x) (hg : Region.wanted o (yielded ops a.tmps) = true) {v : Value} (hr : (Instr.loadAt ty (a.eval x)).run P w = .ok v w)
    (h : wpList P ops Q rest (a.put o.dst v) w) : wpList P ops Q (o :: rest) a w := by
  unfold wpList
  rw [if_pos hg]
  refine .inl ?_
  unfold Oper.wp execOp
  simp only [ho, Sem.run_bind, hr, Result.andThen_ok, Sem.run_pure]
  exact h
section
variable {W w : World} {ds : List (Ob Z0)} {g g' : Nat} {N L : Int} {l : List Cl}
set_option maxHeartbeats 8000000 in
theorem adoHear (i j : Nat) (hij : i ≠ j) (h : OSt W ds w) (hi : ds[i]? = some (clO g N L l)) (hj : ds[j]? = some (rcO g' N L l)) (x : AskE) (hl : l.length ≤ 100) (ht : x.t.length ≤ 10000) (hpo : ∀ o ∈ l, I64 o.p) (hk : x.k ≠ 0 ∧ x.k ≠ 1) :
    Calls Tryz.prog 9 #[.agg (askC x).toArray, .pointer (some ⟨g, 0, none⟩), .pointer (some ⟨g', 0, none⟩)] w fun r w' => r = .returned (.bool true) ∧ OSt W ((ds.set i (clO g N L (hearR l x.t).l)).set j (rcO g' N L (hearR l x.t).l)) w' := by
  obtain ⟨k, n, a, t⟩ := x
  simp only at hk ht ⊢
  skip
  have HA := Lib.hid (h.alloc (.cells (askC ⟨k, n, a, t⟩).toArray 30 (0, 0)) nz0c)
  have HI : Hid (ds[i]? = some (clO g N L l)) := Lib.hid hi
  have HJ : Hid (∀ L' l', (ds.set i (clO g N L' l'))[j]? = some (rcO g' N L l)) := Lib.hid fun L' l' => by
    rw [List.getElem?_set_ne hij]
    exact hj
  have HJ0 : Hid (ds[j]? = some (rcO g' N L l)) := Lib.hid hj
  obtain ⟨x0, x1, x18, xl, -⟩ := askBox (x := ⟨k, n, a, t⟩) (HA.out.get 0 rfl)
  simp only at x0 x1 x18
  clear h hi hj hij
  obtain ⟨k0, k1⟩ := hk
  have KC := Lib.hid (cHearO (i + 1) HA.out HI.out t (by omega) ht hpo)
  have KR := Lib.hid fun (ds' : List (Ob Z0)) (w' : World) (h' : OSt W ds' w') (hj' : ds'[j + 3]? = some (rcO g' N L l)) => rHearO (j + 3) h' hj' t (by omega) ht hpo
  have HEL := Lib.hid (hear_ents l t)
  generalize hearR l t = R at *
  obtain ⟨n1, X, E, l'⟩ := R
  simp only at KC KR HEL ⊢
  have z0 : (k == 0) = false := beq_eq_false_iff_ne.2 k0
  have z1 : (k == 1) = false := beq_eq_false_iff_ne.2 k1
  clear ht hpo hl
  go_enter Tryz.func9, Tryz.ntmps9
  go_upto_region 1 with fail
  generalize w.alloc (.cells (askC ⟨k, n, a, t⟩).toArray 30) = w1 at *
  generalize w.heap.size = gb at *
  go_wp2_with fail
  refine KC.out.mono ?_
  rintro e w2 ⟨rv, rfl, h2⟩
  obtain ⟨A1, c1, hf⟩ := (h2.own 0 rfl).form
  subst hf
  have H2 : Hid (OSt W (rowOb w2.heap.size (.cells (rsC X (.slice A1 X.ents.length c1)).toArray 60 (0, 0)) nz0c :: ownOb 113 3 (.slice A1 X.ents.length c1) X.ents.length (X.ents.flatMap enC) :: rowOb gb (.cells (askC ⟨k, n, a, t⟩).toArray 30 (0, 0)) nz0c :: ds.set i (clO g N L l')) (w2.alloc (.cells (rsC X (.slice A1 X.ents.length c1)).toArray 60 (0, 0)))) := Lib.hid (OSt.alloc h2 _ nz0c)
  have HS2 := Lib.hid (new_rsAc w2 X A1 X.ents.length c1)
  clear h2 KC HA x0 x1 x18 xl
  go_upto_region 11 with (refine wpList_st rfl 60 (.tmp 16) (.tmp 81) rfl HS2.out ?_; simp only [Act.put]; clear HS2)
  generalize w2.alloc (.cells (rsC X (.slice A1 X.ents.length c1)).toArray 60) = w3 at *
  generalize w2.heap.size = g16 at *
  obtain ⟨x0, x1, x18, xl, -⟩ := askBox (x := ⟨k, n, a, t⟩) (H2.out.get 2 rfl)
  simp only at x0 x1 x18
  have KR2 := Lib.hid (KR.out _ _ H2.out (HJ.out L l'))
  clear KR
  go_wp2_with fail
  refine KR2.out.mono ?_
  rintro e w4 ⟨rv2, rfl, h4⟩
  obtain ⟨A2, c2, hf⟩ := (h4.own 0 rfl).form
  subst hf
  have H4 : Hid (OSt W (rowOb w4.heap.size (.cells (rsC X (.slice A2 X.ents.length c2)).toArray 60 (0, 0)) nz0c :: ownOb 113 3 (.slice A2 X.ents.length c2) X.ents.length (X.ents.flatMap enC) :: rowOb g16 (.cells (rsC X (.slice A1 X.ents.length c1)).toArray 60 (0, 0)) nz0c :: ownOb 113 3 (.slice A1 X.ents.length c1) X.ents.length (X.ents.flatMap enC) :: rowOb gb (.cells (askC ⟨k, n, a, t⟩).toArray 30 (0, 0)) nz0c :: (ds.set i (clO g N L l')).set j (rcO g' N L l')) (w4.alloc (.cells (rsC X (.slice A2 X.ents.length c2)).toArray 60 (0, 0)))) := Lib.hid (OSt.alloc h4 _ nz0c)
  have HS4 := Lib.hid (new_rsAc w4 X A2 X.ents.length c2)
  clear h4 KR2 H2 x0 x1 x18 xl
  go_upto_region 12 with (refine wpList_st rfl 60 (.tmp 19) (.tmp 89) rfl HS4.out ?_; simp only [Act.put]; clear HS4)
  generalize w4.alloc (.cells (rsC X (.slice A2 X.ents.length c2)).toArray 60) = w5 at *
  generalize w4.heap.size = g19 at *
  have KS := Lib.hid (rSame_eq X (.slice A1 X.ents.length c1) (.slice A2 X.ents.length c2) w5 ((H4.out.own 3 rfl).rr (by decide)) ((H4.out.own 1 rfl).rr (by decide)) (by have := HEL.out; omega))
  have HLa := Lib.hid (ldRs (H4.out.get 2 rfl))
  have HLb := Lib.hid (ldRs (H4.out.get 0 rfl))
  go_wp2_with (first | (refine wpList_ldgN 60 (.tmp 16) rfl (by rfl) HLa.out ?_; simp only [Act.put]) | (refine wpList_ldgN 60 (.tmp 19) rfl (by rfl) HLb.out ?_; simp only [Act.put]))
  refine KS.out.mono ?_
  rintro e w9 ⟨rfl, k9⟩
  have H9 := Lib.hid (H4.out.ext k9)
  clear k9 KS HLa HLb H4
  go_wp2_with fail
  go_ret
  exact ⟨by simp, ((((H9.out.dropI 0).dropI 0).dropI 0).dropI 0).dropI 0⟩
theorem ado_any (i j : Nat) (hij : i ≠ j) (h : OSt W ds w) (hi : ds[i]? = some (clO g N L l)) (hj : ds[j]? = some (rcO g' N L l)) (x : AskE) (hl : l.length ≤ 100) (hL : 0 ≤ L ∧ L ≤ 1000) (hn : I64 x.n) (ha : x.a.Ok) (ht : x.t.length ≤ 10000) (hpo : ∀ o ∈ l, I64 o.p) :
    Calls Tryz.prog 9 #[.agg (askC x).toArray, .pointer (some ⟨g, 0, none⟩), .pointer (some ⟨g', 0, none⟩)] w fun r w' => r = .returned (.bool true) ∧ OSt W ((ds.set i (clO g N (stepC N (L, l) x).1 (stepC N (L, l) x).2)).set j (rcO g' N (stepC N (L, l) x).1 (stepC N (L, l) x).2)) w' := by
  by_cases k0 : x.k = 0
  · exact adoCall i j hij h hi hj x hl hL hn ha k0
  by_cases k1 : x.k = 1
  · have e : stepC N (L, l) x = (L, l) := by unfold stepC; rw [if_neg k0, if_pos k1]
    rw [e]
    have e1 : (ds.set i (clO g N L l)).set j (rcO g' N L l) = ds := by
      have e2 : ds.set i (clO g N L l) = ds := by
        apply List.ext_getElem?
        intro q
        by_cases hq : i = q
        · subst hq
          rw [List.getElem?_set_self (List.getElem?_eq_some_iff.1 hi).1, hi]
        · rw [List.getElem?_set_ne hq]
      rw [e2]
      apply List.ext_getElem?
      intro q
      by_cases hq : j = q
      · subst hq
        rw [List.getElem?_set_self (List.getElem?_eq_some_iff.1 hj).1, hj]
      · rw [List.getElem?_set_ne hq]
    show Calls _ _ _ w fun r w' => r = _ ∧ OSt W ((ds.set i (clO g N L l)).set j (rcO g' N L l)) w'
    rw [e1]
    exact adoAgain i j hij h hi hj x hl k1
  have e : stepC N (L, l) x = (L, (hearR l x.t).l) := by unfold stepC; rw [if_neg k0, if_neg k1]
  rw [e]
  exact adoHear i j hij h hi hj x hl ht hpo ⟨k0, k1⟩
end
/-- What stays. -/
structure CInv (st : Int × List Cl) (k : Nat) : Prop where
  len : st.2.length ≤ 8
  L0 : 0 ≤ st.1
  L1 : st.1 ≤ k
  po : ∀ o ∈ st.2, I64 o.p
theorem hear_sub (l : List Cl) (s : List UInt8) : (hearR l s).l.length ≤ l.length ∧ ∀ o ∈ (hearR l s).l, o ∈ l := by
  have he : ∀ i, (l.eraseIdx i).length ≤ l.length ∧ ∀ o ∈ l.eraseIdx i, o ∈ l := fun i => ⟨by rw [List.length_eraseIdx]; split <;> omega, fun o ho => List.mem_of_mem_eraseIdx ho⟩
  have hs : l.length ≤ l.length ∧ ∀ o ∈ l, o ∈ l := ⟨Nat.le_refl _, fun _ h => h⟩
  unfold hearR
  split
  · exact hs
  · split
    · exact hs
    · split
      · exact hs
      · unfold hearB
        split
        · split
          · exact he _
          · exact hs
        · exact he _
theorem step_inv {N : Int} {st : Int × List Cl} {k : Nat} (h : CInv st k) (x : AskE) (hn : I64 x.n) : CInv (stepC N st x) (k + 1) := by
  obtain ⟨L, l⟩ := st
  obtain ⟨h1, h2, h3, h4⟩ := h
  simp only at h1 h2 h3 h4
  unfold stepC
  split
  · simp only
    unfold callR
    split
    · exact ⟨h1, h2, by show L ≤ _; omega, h4⟩
    · split
      · exact ⟨h1, h2, by show L ≤ _; omega, h4⟩
      · split
        · exact ⟨h1, h2, by show L ≤ _; omega, h4⟩
        · refine ⟨by show (l ++ [_]).length ≤ 8; rw [List.length_append]; simp; omega, by show 0 ≤ L + 1; omega, by show L + 1 ≤ _; omega, fun o ho => ?_⟩
          rcases List.mem_append.1 ho with ho | ho
          · exact h4 o ho
          · obtain rfl := List.mem_singleton.1 ho
            exact hn
  · split
    · exact ⟨h1, h2, by show L ≤ _; omega, h4⟩
    · obtain ⟨a, b⟩ := hear_sub l x.t
      exact ⟨Nat.le_trans a h1, h2, by show L ≤ _; omega, fun o ho => h4 o (b o ho)⟩
end
end Go.Proofs.YteahlnoonmfjhaaGreat
namespace Go.Proofs.YteahlnoonmfjhaaGreat.netClients
open Go.RowKit Go.ChangeShapes Go.WideShapes Go.ChangeAt Go.Deep Go.Proofs.YteahlnoonmfjhaaGreat

theorem okl_ok {a : AgT} (h : a.Okl) (h1 : a.name.length ≤ 20000) (h2 : a.other.length ≤ 20000) (h3 : a.text.length ≤ 20000) : a.Ok := ⟨h.h, h.t, h1, h2, h3, h.at_, h.n, h.mode, h.size, h.stable, h.guard, h.verf⟩
def lead (N : Int) (l : List AskE) (k : Nat) : Int × List Cl := (l.take k).foldl (stepC N) (0, [])
theorem lead_succ {N : Int} {l : List AskE} {k : Nat} {x : AskE} (h : l[k]? = some x) : lead N l (k + 1) = stepC N (lead N l k) x := by
  unfold lead
  rw [List.take_add_one, h, List.foldl_append]
  rfl
theorem lead_inv (N : Int) (l : List AskE) (hl : ∀ x ∈ l, I64 x.n) : ∀ k, k ≤ l.length → CInv (lead N l k) k
  | 0, _ => ⟨Nat.zero_le _, Int.le_refl _, Int.le_refl _, fun o ho => by simp [lead] at ho⟩
  | k + 1, h => by
    have hx : l[k]? = some l[k] := List.getElem?_eq_getElem (by omega)
    rw [lead_succ hx]
    exact step_inv (lead_inv N l hl k (by omega)) _ (hl _ (List.getElem_mem _))
def short (x : AskE) : Prop := x.t.length ≤ 5000 ∧ x.a.text.length ≤ 5000 ∧ x.a.name.length ≤ 1000 ∧ x.a.other.length ≤ 1000
theorem cells {w : World} {b off c : Nat} {l : List AskE} (h : RR w 19 (.slice (some ⟨b, off, none⟩) l.length c) l.length (l.flatMap askC)) {k : Nat} {x : AskE} (hx : l[k]? = some x) :
    w.cell? ⟨b, off + k * 19 + 18, none⟩ = some (.string (str x.t)) ∧ w.cell? ⟨b, off + k * 19 + 10, none⟩ = some (.string (str x.a.text)) ∧ w.cell? ⟨b, off + k * 19 + 8, none⟩ = some (.string (str x.a.name)) ∧ w.cell? ⟨b, off + k * 19 + 9, none⟩ = some (.string (str x.a.other)) := by
  have h0 := RR.cellAt (enc := askC) h askC_len hx (i := 18) rfl
  have h1 := RR.cellAt (enc := askC) h askC_len hx (i := 10) rfl
  have h2 := RR.cellAt (enc := askC) h askC_len hx (i := 8) rfl
  have h3 := RR.cellAt (enc := askC) h askC_len hx (i := 9) rfl
  rw [← Nat.add_assoc] at h0 h1 h2 h3
  exact ⟨h0, h1, h2, h3⟩
theorem ldask {w : World} {b off c : Nat} {l : List AskE} (h : RR w 19 (.slice (some ⟨b, off, none⟩) l.length c) l.length (l.flatMap askC)) {k : Nat} {x : AskE} (hx : l[k]? = some x) :
    (Instr.loadAt 30 (.pointer (some ⟨b, off + k * 19, none⟩))).run Tryz.prog w = .ok (.agg (askC x).toArray) w :=
  loadAt_cs (P := Tryz.prog) Tryz.underlying30 (by kernel_rfl) fun j hj => by
    have := RR.cellAt (enc := askC) h askC_len hx (i := j) (List.getElem?_eq_getElem hj)
    rw [Nat.add_assoc]
    exact this
set_option maxHeartbeats 16000000 in
theorem walk {w : World} (number : Int) (hnum : (Lit.int .i64 number).wf = true) (x : AsksT) (hx : x.Ok w) : Calls Tryz.prog 3 #[.int .i64 number, x.v] w fun e w' => e = .returned (.bool true) ∧ Below w.heap.size w w' := by
  obtain ⟨v, l⟩ := x
  have hr := hx.r
  have he := hx.e
  have hlen := hx.len
  clear hx hnum
  simp only at hr he hlen ⊢
  show Calls _ _ #[.int .i64 number, v] w _
  obtain ⟨A, c, rfl⟩ := hr.form
  have HR := Lib.hid hr
  have HE := Lib.hid he
  unfold maxLen at hlen
  clear hr he
  by_cases h60 : 60 < l.length
  · have h60' : (60 : Int) < (l.length : Int) := by omega
    go_enter Tryz.func3, Tryz.ntmps3
    go_wp2_with fail
    refine (awake30 w).mono ?_
    rintro e w9 ⟨rfl, h9⟩
    have F := Lib.hid (h9)
    clear h9
    go_wp2
    go_ret
    exact ⟨rfl, F.out⟩
  have h60' : (l.length : Int) ≤ 60 := by omega
  have hll : l.length ≤ 60 := by omega
  clear hlen h60
  go_enter Tryz.func3, Tryz.ntmps3
  go_wp2_with fail
  go_loopg [5] l.length (fun gg s wr => ∃ k : Nat, k ≤ l.length ∧ l.length - k ≤ gg ∧ s = .int .i64 k ∧ Hid (Ext w wr) ∧ Hid (∀ j y, j < k → l[j]? = some y → short y))
  case atStart => exact ⟨0, Nat.zero_le _, by omega, rfl, Lib.hid (Ext.refl w), Lib.hid fun j y hj => absurd hj (Nat.not_lt_zero _)⟩
  case round =>
    obtain ⟨k, hk, hg, rfl, HW, HA⟩ := hrel
    by_cases hlt : k < l.length
    · as_aux_lemma =>
      obtain ⟨b, off, rfl, hb, hc, -⟩ := (HR.out.ext HW.out).at (by omega)
      obtain ⟨x, hx⟩ : ∃ x, l[k]? = some x := ⟨_, List.getElem?_eq_getElem hlt⟩
      obtain ⟨x0, x1, x2, x3⟩ := cells (HR.out.ext HW.out) hx
      have s0 := str_size x.t
      have s1 := str_size x.a.text
      have s2 := str_size x.a.name
      have s3 := str_size x.a.other
      have HX := Lib.hid hx
      clear hx
      by_cases h0 : 5000 < x.t.length
      · have h0' : (5000 : Int) < (x.t.length : Int) := by omega
        go_wp2_with fail
        refine (awake30 wr).mono ?_
        rintro e w9 ⟨rfl, h9⟩
        have F := Lib.hid (Ext.trans HW.out h9)
        clear h9
        go_wp2
        go_ret
        exact ⟨rfl, F.out⟩
      have h0' : (x.t.length : Int) ≤ 5000 := by omega
      by_cases h1 : 5000 < x.a.text.length
      · have h1' : (5000 : Int) < (x.a.text.length : Int) := by omega
        go_wp2_with fail
        refine (awake30 wr).mono ?_
        rintro e w9 ⟨rfl, h9⟩
        have F := Lib.hid (Ext.trans HW.out h9)
        clear h9
        go_wp2
        go_ret
        exact ⟨rfl, F.out⟩
      have h1' : (x.a.text.length : Int) ≤ 5000 := by omega
      by_cases h2 : 1000 < x.a.name.length
      · have h2' : (1000 : Int) < (x.a.name.length : Int) := by omega
        go_wp2_with fail
        refine (awake30 wr).mono ?_
        rintro e w9 ⟨rfl, h9⟩
        have F := Lib.hid (Ext.trans HW.out h9)
        clear h9
        go_wp2
        go_ret
        exact ⟨rfl, F.out⟩
      have h2' : (x.a.name.length : Int) ≤ 1000 := by omega
      by_cases h3 : 1000 < x.a.other.length
      · have h3' : (1000 : Int) < (x.a.other.length : Int) := by omega
        go_wp2_with fail
        refine (awake30 wr).mono ?_
        rintro e w9 ⟨rfl, h9⟩
        have F := Lib.hid (Ext.trans HW.out h9)
        clear h9
        go_wp2
        go_ret
        exact ⟨rfl, F.out⟩
      have h3' : (x.a.other.length : Int) ≤ 1000 := by omega
      have HSH : Hid (short x) := Lib.hid ⟨by omega, by omega, by omega, by omega⟩
      go_wp2_with fail
      go_roundg (l.length - (k + 1))
      case measure => omega
      case rel =>
        refine ⟨k + 1, by omega, by omega, by go_num, HW, Lib.hid fun j y hj hy => ?_⟩
        by_cases e : j = k
        · subst e
          rw [HX.out] at hy
          cases hy
          exact HSH.out
        · exact HA.out j y (by omega) hy
    · as_aux_lemma =>
      obtain rfl : k = l.length := by omega
      have HSH : Hid (∀ x ∈ l, short x) := Lib.hid fun x hx => by
        obtain ⟨j, hj, rfl⟩ := List.getElem_of_mem hx
        exact HA.out j _ hj (List.getElem?_eq_getElem hj)
      have H0 : Hid (OSt (Z := Z0) w [] wr) := Lib.hid ((OSt.start w).ext HW.out)
      clear HA HW
      obtain ⟨wo, rfl⟩ : ∃ wo : World, wo = wr := ⟨_, rfl⟩
      by_cases hno : number < 1 ∨ 16 < number
      · have KN := Lib.hid (cNewO_no H0.out number hno)
        have KM := Lib.hid fun (w' : World) (h' : OSt w [] w') => rNewO_no h' number hno
        clear hno
        go_wp2_with fail
        refine KN.out.mono ?_
        rintro e w1 ⟨rfl, h1⟩
        have KM1 := Lib.hid (KM.out w1 h1)
        clear h1 KN KM H0
        go_wp2_with fail
        refine KM1.out.mono ?_
        rintro e w2 ⟨rfl, h2⟩
        have H2 := Lib.hid h2
        clear h2 KM1
        go_wp2_with fail
        refine (awake30 w2).mono ?_
        rintro e w9 ⟨rfl, h9⟩
        have F := Lib.hid ((H2.out.ext h9).bel)
        clear h9
        go_wp2
        go_ret
        exact ⟨rfl, F.out⟩
      have KN := Lib.hid (cNewO_yes H0.out number hno)
      have KM := Lib.hid fun (w' : World) (ds : List (Ob Z0)) (h' : OSt w ds w') => rNewO_yes h' number hno
      clear hno
      go_wp2_with fail
      refine KN.out.mono ?_
      rintro e w1 ⟨g, rfl, h1⟩
      have KM1 := Lib.hid (KM.out w1 _ h1)
      clear h1 KN KM H0
      go_wp2_with fail
      refine KM1.out.mono ?_
      rintro e w2 ⟨g', rfl, h2⟩
      have H2 := Lib.hid h2
      clear h2 KM1
      go_wp2_with fail
      go_loopg [10, 11, 12] l.length (fun gg s _ _ wr => ∃ k : Nat, k ≤ l.length ∧ l.length - k ≤ gg ∧ s = .int .i64 k ∧ Hid (OSt w [rcO g' number (lead number l k).1 (lead number l k).2, clO g number (lead number l k).1 (lead number l k).2] wr))
      case atStart => exact ⟨0, Nat.zero_le _, by omega, rfl, H2⟩
      case round =>
        clear H2
        obtain ⟨k, hk, hg, rfl, H⟩ := hrel
        by_cases hlt : k < l.length
        · as_aux_lemma =>
          obtain ⟨b, off, rfl, hb, hc, -⟩ := HR.out.at (by omega)
          obtain ⟨x, hxk⟩ : ∃ x, l[k]? = some x := ⟨_, List.getElem?_eq_getElem hlt⟩
          have hxm := List.mem_of_getElem? hxk
          obtain ⟨e1, e2, e3, e4⟩ := HSH.out x hxm
          have hok := HE.out x hxm
          have HLs := Lib.hid (lead_succ (N := number) hxk)
          have hinv := lead_inv number l (fun x hx => (HE.out x hx).n) k hk
          have hinv' := step_inv (N := number) hinv x hok.n
          have hAo := okl_ok hok.a (by omega) (by omega) (by omega)
          have HLD := Lib.hid fun (w' : World) (q : Ext w w') => ldask (HR.out.ext q) hxk
          generalize hLe : lead number l k = st at *
          obtain ⟨L, L2⟩ := st
          simp only at H
          have ha1 := hinv.len
          have ha2 := hinv.L0
          have ha3 := hinv.L1
          have ha4 := hinv.po
          simp only at ha1 ha2 ha3 ha4
          have KD := Lib.hid fun (i j : Nat) (hij : i ≠ j) (w' : World) (ds : List (Ob Z0)) (ga gb : Nat) (h' : OSt w ds w') (hi : ds[i]? = some (clO ga number L L2)) (hj : ds[j]? = some (rcO gb number L L2)) => ado_any i j hij h' hi hj x (by omega) ⟨ha2, by omega⟩ hok.n hAo (by omega) ha4
          generalize stepC number (L, L2) x = st' at *
          obtain ⟨L', L2'⟩ := st'
          have hb1 : L2'.length ≤ 8 := hinv'.len
          have hL2 : L2.length ≤ 8 := ha1
          clear hxk hxm e1 e2 e3 e4 hok hinv hinv' hAo ha2 ha3 ha4 ha1 hLe
          simp only at KD
          go_wp2_with fail
          refine (cCopyO 1 H.out rfl (by omega)).mono ?_
          rintro e w4 ⟨gc, rfl, h4⟩
          have H4 : Hid (OSt w [clO gc number L L2, rcO g' number L L2, clO g number L L2] w4) := Lib.hid h4
          clear h4 H
          go_wp2_with fail
          refine (rCopyO 1 H4.out rfl (by omega)).mono ?_
          rintro e w5 ⟨gy, rfl, h5⟩
          have H5 : Hid (OSt w [rcO gy number L L2, clO gc number L L2, rcO g' number L L2, clO g number L L2] w5) := Lib.hid h5
          clear h5 H4
          have HL5 := Lib.hid (HLD.out w5 H5.out.bel)
          have KD5 := Lib.hid (KD.out 3 2 (by decide) w5 _ g g' H5.out rfl rfl)
          go_wp2_with (refine wpList_ld rfl 30 (.tmp 96) rfl HL5.out ?_; simp only [Act.put]; clear HL5)
          refine KD5.out.mono ?_
          rintro e w6 ⟨rfl, h6⟩
          have H6 : Hid (OSt w [rcO gy number L L2, clO gc number L L2, rcO g' number L' L2', clO g number L' L2'] w6) := Lib.hid h6
          clear h6 H5 KD5
          have KO6 := Lib.hid (nopen_any 3 2 H6.out rfl rfl (by omega))
          go_wp2_with fail
          refine KO6.out.mono ?_
          rintro e w7 ⟨rfl, h7⟩
          have H7 := Lib.hid h7
          clear h7 H6 KO6
          have KO7 := Lib.hid (nopen_any 1 0 H7.out rfl rfl (by omega))
          go_wp2_with fail
          refine KO7.out.mono ?_
          rintro e w8 ⟨rfl, h8⟩
          have H8 := Lib.hid h8
          clear h8 H7 KO7
          have HL8 := Lib.hid (HLD.out w8 H8.out.bel)
          have KD8 := Lib.hid (KD.out 1 0 (by decide) w8 _ gc gy H8.out rfl rfl)
          go_wp2_with (refine wpList_ldgN 30 (.tmp 117) rfl (by rfl) HL8.out ?_; simp only [Act.put]; clear HL8)
          refine KD8.out.mono ?_
          rintro e w9 ⟨rfl, h9⟩
          have H9 : Hid (OSt w [rcO gy number L' L2', clO gc number L' L2', rcO g' number L' L2', clO g number L' L2'] w9) := Lib.hid h9
          clear h9 H8 KD8 KD
          have KO9 := Lib.hid (nopen_any 1 0 H9.out rfl rfl (by omega))
          go_wp2_with fail
          refine KO9.out.mono ?_
          rintro e w10 ⟨rfl, h10⟩
          have H10 : Hid (OSt w [rcO g' number (lead number l (k + 1)).1 (lead number l (k + 1)).2, clO g number (lead number l (k + 1)).1 (lead number l (k + 1)).2] w10) := Lib.hid (by rw [HLs.out]; exact (h10.dropI 0).dropI 0)
          clear h10 H9 KO9 HLD
          go_wp2
          go_roundg (l.length - (k + 1))
          case measure => omega
          case rel => exact ⟨k + 1, by omega, by omega, by go_num, H10⟩
        · skip
          go_wp2_with fail
          refine (awake30 wr).mono ?_
          rintro e w9 ⟨rfl, h9⟩
          have F := Lib.hid ((H.out.ext h9).bel)
          clear h9
          go_wp2
          go_ret
          exact ⟨rfl, F.out⟩
theorem own : ownKnob Tryz.prog.godebug = none := by kernel_rfl
theorem laidOut : laidOutB Tryz.prog = true := by kernel_rfl

set_option maxRecDepth 100000 in
theorem lifted (os : Os) (started : os.Started) (H : Type) (enc : TypeId × Value → H) :
    ReturnsInHanded {} Tryz.checked os 3 .any (Rows.netClientsSpec.pre6 enc Tryz.prog Tryz.f3 Rows.netClientsRow.domain false) (Rows.netClientsSpec.post enc Tryz.prog Tryz.f3 false true false false) := by
  refine returnsInHanded_of_change (C := Tryz.checked) own started (by kernel_rfl) Tryz.func3
    (ChangeSpec.witness6 (enc := enc) (C := Tryz.checked) false ⟨#[], #[.int .i64 0, .slice none 0 0], []⟩ 8 (by kernel_rfl) (by kernel_rfl) (by kernel_rfl) (by kernel_rfl)) ?_
  intro W base args ds gs before hval0 hW hcnd _
  have hval : ∀ (j : Nat) t v, Tryz.f3.params[j]? = some t → args[j]? = some v → Value.okWide Tryz.prog W .any base t v := hval0
  have hW' := hW
  obtain ⟨p, q, hA0, hV, rfl, hfz, hnd⟩ := hW
  have hA : DataW.TrodAll enc Tryz.prog W 0 (fun _ => true) true Tryz.f3.params.toList args.toList ds p := hA0
  rw [Tryz.params3] at hA hval
  obtain ⟨v0, vs0, d0, ds0, p0, q0, hargs, rfl, rfl, h0, r0⟩ := trodAll_cons hA
  obtain ⟨v1, vs1, d1, ds1, p1, q1, rfl, rfl, rfl, h1, r1⟩ := trodAll_cons r0
  obtain ⟨rfl, rfl, rfl⟩ := trodAll_nil r1
  obtain rfl : args = #[v0, v1] := by cases args; simp_all
  obtain ⟨rfl, rfl⟩ := trodVars_none hV
  have k0 := h0
  have lt0 : ∀ x ∈ p0, x.block < W.heap.size := by obtain ⟨m, hm⟩ := k0; exact DataW.trod_lt m _ _ _ hm
  have k1 := h1
  have lt1 : ∀ x ∈ p1, x.block < W.heap.size := by obtain ⟨m, hm⟩ := k1; exact DataW.trod_lt m _ _ _ hm
  obtain ⟨a0, rfl, -, -, wa0⟩ := open_int Tryz.underlying3 (hval 0 _ v0 rfl rfl) h0
  obtain ⟨x1, rfl, w1⟩ := open_Wasks (hval 1 _ v1 rfl rfl) h1
  refine (walk (w := W) a0 wa0 x1 w1).mono fun e W' ⟨he, bel⟩ => ?_
  subst he
  exact ⟨_, rfl, _, _, _, [], _, [], hW', trodAll_mk1 (shut_bool Tryz.underlying4 _), (trodAll_cons_mk (Below.trod laidOut (by kernel_rfl) (of_decide_eq_true (by kernel_rfl)) k0 bel lt0) (trodAll_cons_mk (Below.trod laidOut (by kernel_rfl) (of_decide_eq_true (by kernel_rfl)) k1 bel lt1) trodAll_mk0)), rfl, bel.frame _, fun h => by cases h⟩

theorem proved : Rows.NetClientsSaid :=
  OpenClaim.holds_of_wide 3 Tryz.f3 rfl rfl rfl rfl rfl rfl rfl ⟨rfl, rfl, rfl, rfl, rfl⟩ rfl rfl rfl rfl rfl (by kernel_rfl) Tryz.func3 (by kernel_rfl)
    (of_decide_eq_true (by kernel_rfl)) (by unfold Func.isWrapper; first | (rw [if_pos (by decide +kernel)]; kernel_rfl) | (rw [if_neg (by decide +kernel)]; exact ⟨rfl, rfl⟩))
    (fun os started H enc _ => lifted os started H enc)
end Go.Proofs.YteahlnoonmfjhaaGreat.netClients
