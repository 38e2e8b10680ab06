/- Walks of the ring over a disk: Put, Newest. -/
import Derived.Test.YtobcfocbglkicaaRgLift
import Derived.Test.YtobcfocbglkicaaDkN
import Derived.Test.YtobcfocbglkicaaDkO
set_option linter.unusedVariables false
set_option maxRecDepth 100000
namespace Go.Proofs.Ytobcfocbglkicaa
open Go.RowKit

def rtC (r : RoT) : Array Value := #[.int .i64 r.t, .string (str r.l)]
theorem info_rt : (Try.prog.info? 29).map (·.size) = some 2 := by kernel_rfl
theorem alloc_rt (w : World) : (Instr.alloc 29 true (.tuple #[])).run Try.prog w = .ok (.pointer (some ⟨w.heap.size, 0, none⟩)) (w.alloc (.cells (rtC ⟨0, []⟩) 29)) := by kernel_rfl
theorem build_rt (w : World) : (Instr.build 29 #[]).run Try.prog w = .ok (.agg (rtC ⟨0, []⟩)) w := by kernel_rfl
theorem ld_rt {w : World} {g : Nat} {T : TypeId} {fr : Nat × Nat} {r : RoT} (hg : w.heap[g]? = some (.cells (rtC r) T fr)) : (Instr.loadAt 29 (.pointer (some ⟨g, 0, none⟩))).run Try.prog w = .ok (.agg (rtC r)) w := by
  simp only [Instr.loadAt, Instr.sureAddr, Sem.run_bind, Sem.run_pure, Result.andThen]
  exact run_loadVar_row _ _ _ _ _ fr _ hg Try.underlying29 rfl (by rw [info_rt]; rfl)
theorem st_rt {w : World} {g : Nat} {T : TypeId} {r old : RoT} (hg : w.heap[g]? = some (.cells (rtC old) T (0, 0))) : (Instr.storeAt 29 (.pointer (some ⟨g, 0, none⟩)) (.agg (rtC r))).run Try.prog w = .ok () (w.setRow g (rtC r)) :=
  storeAt_row hg (by rw [info_rt]; rfl) rfl (by simp [rtC, Value.oneCell'])
theorem st_rtn (r : RoT) (w : World) : (Instr.storeAt 29 (.pointer (some ⟨w.heap.size, 0, none⟩)) (.agg (rtC r))).run Try.prog (w.alloc (.cells (rtC ⟨0, []⟩) 29)) = .ok () (w.alloc (.cells (rtC r) 29)) := by
  have st := st_rt (r := r) (heap_alloc_last w (.cells (rtC ⟨0, []⟩) 29))
  rw [World.setRow_alloc_new] at st
  exact st
/-- A root is put. -/
def DK.put (D : DK) (t : Int) (l : List UInt8) : DK × Int := if (rkS t l).2 = 0 then D.write (placeR t) (rkS t l).1 else (D, (rkS t l).2)
section
variable {W w : World} {loc : List (Nat × Obj)} {ds : List (Nat × DK)} {g : Nat} {D : DK}
set_option maxHeartbeats 8000000 in
theorem put_l (i : Nat) (h : DSt W loc ds w) (hi : ds[i]? = some (g, D)) (t : Int) (l : List UInt8) (hl : l.length ≤ maxLen) (hkl : D.keep.length ≤ 1000000) (hwl : D.wt.length ≤ 100000) :
    Calls Try.prog 50 #[.pointer (some ⟨g, 0, none⟩), .agg #[.int .i64 t, .string (str l)]] w fun e w' => e = .returned (.int .i64 (D.put t l).2) ∧ DSt W loc (ds.set i (g, (D.put t l).1)) w' := by
  have h1 := h.alloc (.cells #[.int .i64 t, .string (str l)] 29 (0, 0))
  have K := Lib.hid fun w => rgSeal_any t l w hl
  have lS : (rkS t l).1.length = 512 := rkS_length
  have hput : D.put t l = if (rkS t l).2 = 0 then D.write (placeR t) (rkS t l).1 else (D, (rkS t l).2) := rfl
  have hset : (ds.set i (g, D)) = ds := by
    apply List.ext_getElem?
    intro j
    by_cases e : i = j
    · subst e
      rw [List.getElem?_set_self (List.getElem?_eq_some_iff.1 hi).1, hi]
    · rw [List.getElem?_set_ne e]
  obtain ⟨R, hR⟩ : ∃ R, R = rkS t l := ⟨_, rfl⟩
  rw [← hR] at lS hput K
  rw [hput]
  clear hR hput
  obtain ⟨S, E⟩ := R
  obtain ⟨P, hP⟩ : ∃ P, P = if E = 0 then D.write (placeR t) S else (D, E) := ⟨_, rfl⟩
  simp only [bkV] at lS K ⊢
  rw [← hP]
  have f0 : E = 0 → P = D.write (placeR t) S := fun h => by rw [hP, if_pos h]
  have f1 : E ≠ 0 → P = (D, E) := fun h => by rw [hP, if_neg h]
  have F0 := Lib.hid f0
  have F1 := Lib.hid f1
  clear hP f0 f1
  go_enter Try.func50, Try.ntmps50
  go_upto_region 3 with fail
  change Code.wp _ _ _ _ (w.alloc (.cells #[.int .i64 t, .string (str l)] 29 (0, 0)))
  have b3 := Lib.hid (heap_alloc_last w (.cells #[.int .i64 t, .string (str l)] 29 (0, 0)))
  generalize w.alloc (.cells #[.int .i64 t, .string (str l)] 29 (0, 0)) = V at *
  generalize w.heap.size = g3 at *
  obtain ⟨c0, c1, -, -, ltb⟩ := blk2 b3.out
  go_wp2_with fail
  refine (K.out _).mono ?_
  rintro e w1 ⟨rfl, k1⟩
  have ST := Lib.hid (st_blkn S lS w1)
  have h2 := Lib.hid ((h1.ext k1).alloc (.cells (bvs S).toArray 25 (0, 0)))
  clear c0 c1 ltb K h1 k1
  go_upto_region 4 with (first | (refine wpList_al rfl 25 rfl alloc_blk ?_; simp only [Act.put]) | (refine wpList_st rfl 25 _ _ rfl ST.out ?_; simp only [Act.put]))
  try simp only [List.setIfInBounds_toArray, List.set_cons_zero, List.set_cons_succ]
  change Code.wp _ _ _ _ (w1.alloc (.cells (bvs S).toArray 25 (0, 0)))
  generalize w1.alloc (.cells (bvs S).toArray 25 (0, 0)) = V1 at *
  generalize w1.heap.size = g5 at *
  clear ST
  by_cases hE : E = 0
  · subst hE
    have hP := Lib.hid (F0.out rfl)
    clear F0 F1
    go_wp2_with fail
    have B3 := h2.out.get 1 rfl
    have B5 := h2.out.get 0 rfl
    have L5 := Lib.hid fun V2 (k : Ext V1 V2) => ld_blk ((Below.block k g5 (Array.getElem?_eq_some_iff.1 B5).1).trans B5) lS
    have e1 : ∀ ψ (e : ExtP V1.heap.size V1 ψ), e.val.cell? ⟨g3, 0, none⟩ = some (.int .i64 t) := fun ψ e => e.cell (by rw [cell_of_row _ _ _ _ _ _ B3]; rfl) (Array.getElem?_eq_some_iff.1 B3).1
    clear B3 B5
    refine wp_region_pieces 5  [(true, [0, 1, 2, 3, 4])] (by kernel_rfl) (by kernel_rfl) ?_; simp only [pick, List.map_cons, List.map_nil, List.flatMap_cons, List.flatMap_nil, Option.toList_some, List.singleton_append, List.drop_succ_cons, List.drop_zero, List.getElem?_cons_zero, List.getElem?_cons_succ]
    refine ⟨by kernel_rfl, ?_⟩; apply Exists.intro; refine ⟨fun ψ hψ hne => (by (repeat (first | ( go_big_quiet_want; refine quiet_ld 25 (.tmp 5) rfl (fun w' hw' => L5.out w' (ext_in hw')) ?_; go_simp; go_big_quiet_on ) | go_big_quiet_step ((  go_at_call 20; exact extP_of hψ (Nat.le_refl _) (rgPlace_any t _) )))); exact wpQuiet_nil rfl), ?_⟩
    intro V2 hV2
    clear e1 L5
    go_wp2_with fail
    refine (write_l i ((h2.out.ext hV2).drop.drop) hi (placeR t) lS hkl hwl).mono ?_
    rintro e w3 ⟨rfl, h3⟩
    go_wp2_with fail
    go_ret
    rw [hP.out]
    exact ⟨rfl, h3⟩
  · have hP := Lib.hid (F1.out hE)
    clear F0 F1
    have z1 : (E != 0) = true := bne_iff_ne.2 hE
    go_wp2_with fail
    go_ret
    rw [hP.out]
    exact ⟨rfl, by rw [hset]; exact h2.out.drop.drop⟩
end
def nwStep (D : DK) (r : RoT) (p : Int) : RoT := if (rkO (D.at p)).2 = 0 ∧ placeR (rkO (D.at p)).1.t = p ∧ r.t < (rkO (D.at p)).1.t then (rkO (D.at p)).1 else r
def nwN (D : DK) : Nat → RoT
  | 0 => ⟨0, []⟩
  | j + 1 => nwStep D (nwN D j) j
/-- The newest root. -/
def DK.newest (D : DK) : RoT × Int := if D.dead then (⟨0, []⟩, 51) else if (nwN D 2).t = 0 then (⟨0, []⟩, 5) else (nwN D 2, 0)
end Go.Proofs.Ytobcfocbglkicaa
