/- Walks of tasks: Copy. -/
import Derived.Test.YtiihlbaajopllaaTkE
set_option linter.unusedVariables false
set_option maxRecDepth 100000
namespace Go.Proofs.Ytiihlbaajopllaa
open Go.RowKit Go.MapKept

set_option maxHeartbeats 2000000 in
theorem mcloneS_any {mo : Nat} {F : FI} (w : World) (h : MapI w mo F) :
    Calls Try.prog 63 #[.map (some mo)] w fun e w' => e = .returned (.map (some w.heap.size)) ∧ MapI w' w.heap.size F ∧ Ext w w' := by
  obtain ⟨es, clock, hb, he⟩ := h
  have hq := fun w => run_eql_map_nil (P := Try.prog) w 103 _ _ (some mo) Try.underlying103
  simp only [Option.isNone_some] at hq
  go_enter Try.func63, Try.ntmps63
  go_wp2
  rw [run_callFunc_extern Try.func81 (by kernel_rfl) (by kernel_rfl) (by kernel_rfl) (e := Extern.MapsClone.clone) (by kernel_rfl), run_maps_clone w 103 hb]
  simp only [Result.andThen]
  rw [Oper.upon_value]
  go_wp2
  rw [run_typeAssert_map _ 103 _ _ _ _ Try.underlying103]
  simp only [Result.andThen]
  rw [Oper.upon_value]
  go_wp2
  go_ret
  exact ⟨rfl, ⟨es, clock, heap_alloc_last _ _, he⟩, extAl w _⟩
set_option maxHeartbeats 2000000 in
theorem mcloneP_any {mo : Nat} {F : FI} (w : World) (h : MapI w mo F) :
    Calls Try.prog 64 #[.map (some mo)] w fun e w' => e = .returned (.map (some w.heap.size)) ∧ MapI w' w.heap.size F ∧ Ext w w' := by
  obtain ⟨es, clock, hb, he⟩ := h
  have hq := fun w => run_eql_map_nil (P := Try.prog) w 104 _ _ (some mo) Try.underlying104
  simp only [Option.isNone_some] at hq
  go_enter Try.func64, Try.ntmps64
  go_wp2
  rw [run_callFunc_extern Try.func81 (by kernel_rfl) (by kernel_rfl) (by kernel_rfl) (e := Extern.MapsClone.clone) (by kernel_rfl), run_maps_clone w 104 hb]
  simp only [Result.andThen]
  rw [Oper.upon_value]
  go_wp2
  rw [run_typeAssert_map _ 104 _ _ _ _ Try.underlying104]
  simp only [Result.andThen]
  rw [Oper.upon_value]
  go_wp2
  go_ret
  exact ⟨rfl, ⟨es, clock, heap_alloc_last _ _, he⟩, extAl w _⟩
section
variable {S : Nat → Prop} {g : Nat} {T : TK}
set_option maxHeartbeats 2000000 in
theorem tCopy_any (w : World) (h : TkAt w S g T) :
    Calls Try.prog 41 #[.pointer (some ⟨g, 0, none⟩)] w fun e w' => ∃ g', e = .returned (.pointer (some ⟨g', 0, none⟩)) ∧ (tkOb g' T).is w' (fun i => w.heap.size ≤ i ∧ i < w'.heap.size) ∧ Below w.heap.size w w' := by
  obtain ⟨⟨tg, ms, mp, h⟩, hok⟩ := h
  obtain ⟨c0, c1, c2, c3, c4, -, hlt⟩ := blk5 h.hg
  have KL := Lib.hid fun w' (hE : Ext w w') => Copy_any w' (h.lk.ext hE)
  have KS := Lib.hid fun w' (hE : Ext w w') => mcloneS_any w' (h.st.ext hE)
  have KP := Lib.hid fun w' (hE : Ext w w') => mcloneP_any w' (h.pl.ext hE)
  have HOK := Lib.hid hok
  clear h hok
  go_enter Try.func41, Try.ntmps41
  go_wp2_with fail
  have e0 := fun (ψ : World → Prop) (e : ExtP w.heap.size w ψ) => e.cell c0 hlt
  have e1 := fun (ψ : World → Prop) (e : ExtP w.heap.size w ψ) => e.cell c1 hlt
  have e2 := fun (ψ : World → Prop) (e : ExtP w.heap.size w ψ) => e.cell c2 hlt
  have e3 := fun (ψ : World → Prop) (e : ExtP w.heap.size w ψ) => e.cell c3 hlt
  have e4 := fun (ψ : World → Prop) (e : ExtP w.heap.size w ψ) => e.cell c4 hlt
  clear c0 c1 c2 c3 c4
  refine wp_region_pieces 24  [(true, [0, 1, 2, 3, 5, 6, 7, 8, 10, 11, 12, 13, 15, 16, 17, 18, 19, 20, 21, 22]), (false, [4]), (false, [9]), (false, [14]), (true, [23])] (by kernel_rfl) (by kernel_rfl) ?_; simp only [pick, List.map_cons, List.map_nil, List.flatMap_cons, List.flatMap_nil, Option.toList_some, List.singleton_append, List.drop_succ_cons, List.drop_zero, List.getElem?_cons_zero, List.getElem?_cons_succ]
  refine ⟨by kernel_rfl, ?_⟩; apply Exists.intro; refine ⟨fun ψ hψ hne => (by (repeat (go_big_quiet_step (( fail )))); exact wpQuiet_nil rfl), ?_⟩
  intro w1 h1 K hK
  clear e0 e1 e2 e3 e4
  go_wp2_with (go_at_call 19; refine (KL.out _ h1).mono ?_; rintro e w2 ⟨g2, rfl, hl2, hb2⟩)
  refine hK _ _ hb2 ?_
  clear hK K
  have H2 := Lib.hid hl2
  have E2 := Lib.hid (Ext.trans h1 hb2)
  have s1 := h1.size
  clear hb2 hl2
  intro w3 h3 K hK
  go_wp2_with (go_at_call 63; refine (KS.out _ (Ext.trans E2.out h3)).mono ?_; rintro e w4 ⟨rfl, hm4, hb4⟩)
  refine hK _ _ hb4 ?_
  clear hK K
  have H4 := Lib.hid hm4
  have E4 := Lib.hid (Ext.trans (Ext.trans E2.out h3) hb4)
  have L4 := Lib.hid ((lkOb g2 (lkL T.L)).ext H2.out (Ext.trans h3 hb4))
  have s2 := hb4.size
  have s3 := h3.size
  have s4 := hm4.lt
  have s5 := E2.out.size
  clear hm4 hb4 h3 h1 H2 E2
  intro w5 h5 K hK
  go_wp2_with (go_at_call 64; refine (KP.out _ (Ext.trans E4.out h5)).mono ?_; rintro e w6 ⟨rfl, hm6, hb6⟩)
  refine hK _ _ hb6 ?_
  clear hK K
  have H6 := Lib.hid hm6
  have M6 := Lib.hid (H4.out.ext (Ext.trans h5 hb6))
  have E6 := Lib.hid (Ext.trans (Ext.trans E4.out h5) hb6)
  have L6 := Lib.hid ((lkOb g2 (lkL T.L)).ext L4.out (Ext.trans h5 hb6))
  have s6 := hb6.size
  have s7 := h5.size
  have s8 := hm6.lt
  clear hm6 hb6 h5 H4 E4 L4 KL KS KP
  have S1 := Lib.hid (And.intro s1 (And.intro s2 (And.intro s3 (And.intro s4 (And.intro s5 (And.intro s6 (And.intro s7 s8)))))))
  clear s1 s2 s3 s4 s5 s6 s7 s8
  refine ⟨by kernel_rfl, ?_⟩; apply Exists.intro; refine ⟨fun ψ hψ hne => (by (repeat (go_big_quiet_step (( fail )))); exact wpQuiet_nil rfl), ?_⟩
  intro w7 h7
  go_wp2
  go_ret
  obtain ⟨s1, s2, s3, s4, s5, s6, s7, s8⟩ := S1.out
  have a := extAl w7 (.cells #[.pointer (some ⟨g2, 0, none⟩), .map (some w3.heap.size), .map (some w5.heap.size), .int .i64 T.cnt, .int .i64 T.last] 106)
  have s9 := h7.size
  refine ⟨_, rfl, ⟨⟨g2, w3.heap.size, w5.heap.size, ?_⟩, HOK.out⟩, Ext.trans (Ext.trans E6.out h7) a⟩
  have hsz := World.size_alloc w7 (.cells #[.pointer (some ⟨g2, 0, none⟩), .map (some w3.heap.size), .map (some w5.heap.size), .int .i64 T.cnt, .int .i64 T.last] 106)
  exact {
    hg := heap_alloc_last _ _
    lk := (lkOb g2 (lkL T.L)).mono ((lkOb g2 (lkL T.L)).ext L6.out (Ext.trans h7 a)) fun i hi => by omega
    st := M6.out.ext (Ext.trans h7 a)
    pl := H6.out.ext (Ext.trans h7 a)
    ne := by omega
    sg := by omega
    sm := by omega
    sp := by omega }
end
end Go.Proofs.Ytiihlbaajopllaa
