/- ArgsNames: parts of its walk. No statement of its own. (Printed by gen_argsnames.py.) -/
import Derived.Test.YteahlnoonmfjhaaArP
set_option linter.unusedVariables false
set_option linter.unusedSimpArgs false
set_option maxRecDepth 100000
namespace Go.Proofs.Yteahlnoonmfjhaa.argsNames
open Go.RowKit Go.ChangeShapes Go.WideShapes Go.ChangeAt Go.Deep Go.Proofs.Yteahlnoonmfjhaa
attribute [local go_sem ↓] neq_same05

set_option maxHeartbeats 16000000 in
theorem part4 : pk.p4 := by
  intro W S2 HS2 KM2 S3 HS3 KM3 S4 HS4 KM4 f3 EE HEE V0 ge V1 HGE1 X ga HAT1 J K' Q2 hJ hK
  (try simp only [List.append_eq, List.cons_append, List.nil_append])
  have hlt := (Array.getElem?_eq_some_iff.1 HAT1.out).1
  have hat := fun i v (h : (#[.int .u8 2, .int .i64 (-1), .int .i64 0, .int .i64 0, .int .i64 0, .int .i64 0, .int .i64 0, .int .i64 1099511627776] : Array Value)[i]? = some v) => (cell_of_row V1 ga i _ _ _ HAT1.out).trans h
  have LAT : Hid (∀ w', Ext V1 w' → (Instr.loadAt 38 (.pointer (some ⟨ga, 0, none⟩))).run Try.prog w' = .ok (.agg #[.int .u8 2, .int .i64 (-1), .int .i64 0, .int .i64 0, .int .i64 0, .int .i64 0, .int .i64 0, .int .i64 1099511627776]) w') := Lib.hid fun w' hx => by
    have := Ext.blk hx HAT1.out
    simp only [Instr.loadAt, Instr.sureAddr, Sem.run_bind, Sem.run_pure, Result.andThen]
    exact run_loadVar_row _ _ _ _ _ _ _ this Try.underlying38 rfl (by kernel_rfl)
  clear hat
  refine wp_region_pieces 69  [(true, [0, 1, 2, 3, 4, 5, 6, 7, 8, 9, 10, 11, 12, 13, 14, 15, 16, 17, 18, 19, 20, 21, 22, 23, 24, 25, 26, 27, 28, 29, 30, 31, 32, 33, 34, 35, 36, 37, 38, 39, 40, 41, 42, 43, 44, 48, 49, 50, 51, 52, 53, 54, 55, 56, 57, 58, 59, 60, 61, 62, 63, 64, 65, 68]), (false, [45]), (true, [46, 47]), (false, [66]), (true, [67])] (by kernel_rfl) (by kernel_rfl) ?_; simp only [pick, List.map_cons, List.map_nil, List.flatMap_cons, List.flatMap_nil, Option.toList_some, List.singleton_append, List.drop_succ_cons, List.drop_zero, List.getElem?_cons_zero, List.getElem?_cons_succ]
  refine ⟨by kernel_rfl, ?_⟩; apply Exists.intro; refine ⟨fun ψ hψ hne => (by (repeat (first | ( first | (go_big_quiet_want; refine quiet_ld 38 (.tmp 20) rfl (fun w' hw' => LAT.out w' (ext_in hw')) ?_; go_simp; go_big_quiet_on) | (go_big_quiet_want; refine quiet_bld _ _ rfl (fun w => (by go_simp; rfl)) ?_; go_simp; go_big_quiet_on) ) | go_big_quiet_step ((  (first | (go_at_call 38; exact extP_of hψ (Nat.le_refl _) (h05_any _ _)) | (go_at_call 39; with_reducible exact extP_of hψ (Nat.le_refl _) (KM2.out _)) | (go_at_call 39; with_reducible exact extP_of hψ (Nat.le_refl _) (KM3.out _)) | (go_at_call 39; with_reducible exact extP_of hψ (Nat.le_refl _) (KM4.out _))) )))); exact wpQuiet_nil rfl), ?_⟩
  intro u1 a1 K hK
  go_wp2_with fail
  refine hK _ _ (extAl u1 _) ?_
  clear hK K
  have HE1 := Lib.hid (heap_alloc_last u1 (.cells #[.string S2, .int .i64 0, .int .i64 0] 66))
  have ax := Lib.hid (Ext.trans a1 (extAl u1 (.cells #[.string S2, .int .i64 0, .int .i64 0] 66)))
  clear a1
  generalize u1.alloc (.cells #[.string S2, .int .i64 0, .int .i64 0] 66) = U2 at *
  generalize u1.heap.size = g1 at *
  refine ⟨by kernel_rfl, ?_⟩; apply Exists.intro; refine ⟨fun ψ hψ hne => (by (repeat (first | ( (go_big_quiet_want; refine quiet_bld _ _ rfl (fun w => (by go_simp; rfl)) ?_; go_simp; go_big_quiet_on) ) | go_big_quiet_step ((  fail )))); exact wpQuiet_nil rfl), ?_⟩
  intro u3 a3 K hK
  go_wp2_with (refine wpList_rnTab (ge := ge) (g1 := g1) _ rfl rfl HS3.out HS4.out (by rw [List.map_toArray]; kernel_rfl) ?_; simp only [Act.put]; go_simp)
  refine hK _ _ (extAl u3 _) ?_
  clear hK K
  have HG := Lib.hid (heap_alloc_last u3 (.cells ((rnRows ge g1).flatMap rnC).toArray TR))
  have ay := Lib.hid (Ext.trans (a := U2) a3 (extAl u3 (.cells ((rnRows ge g1).flatMap rnC).toArray TR)))
  clear a3
  generalize hRC : (rnRows ge g1).flatMap rnC = RC at *
  generalize u3.alloc (.cells RC.toArray TR) = U4 at *
  generalize u3.heap.size = g at *
  refine ⟨by kernel_rfl, ?_⟩; apply Exists.intro; refine ⟨fun ψ hψ hne => (by (repeat (go_big_quiet_step (( fail )))); exact wpQuiet_nil rfl), ?_⟩
  intro u5 a5
  go_wp2_with fail
  subst hRC
  have k5 : Ext U2 u5 := Ext.trans ay.out a5
  have r13 : u5.heap[ge]? = some (.cells ((List.replicate 65 en0).flatMap enC).toArray 66 (0, 0)) := by rw [HEE.out]; exact Ext.blk k5 (Ext.blk ax.out HGE1.out)
  have r15 : u5.heap[g1]? = some (.cells (([⟨zr 256, 0, 0⟩] : List EnT).flatMap enC).toArray 66 (0, 0)) := by
    have := Ext.blk k5 HE1.out
    rw [HS2.out] at this
    exact this
  have h13 := en_row (n := 64) (c := 65) r13 (by rw [List.length_replicate]; decide) (by decide)
  have h14 := en_row (n := 65) (c := 65) r13 (by rw [List.length_replicate]; decide) (by decide)
  have h15 := en_row (n := 1) (c := 1) r15 (by decide) (by decide)
  rw [List.take_replicate] at h13 h14
  exact hJ _ _ (by kernel_rfl) (by kernel_rfl) ⟨g, g1, rfl, rfl, rfl, Lib.hid (Ext.blk a5 HG.out), Lib.hid (rn_ents h13 h14 h15), Lib.hid (Ext.trans X.out (Ext.trans ax.out k5))⟩
end Go.Proofs.Yteahlnoonmfjhaa.argsNames
