/- Walks of package handle: a handle's bytes. -/
import Derived.Test.YteahlnoonmfjhaaHandleB
import Derived.Test.YteahlnoonmfjhaaTail
set_option linter.unusedVariables false
set_option maxRecDepth 100000
namespace Go.Proofs.Yteahlnoonmfjhaa
open Go.RowKit

theorem put_top {T : TypeId} (l : List UInt8) (off len cap : Nat) (n : Int) (W : World) {H : Nat} (hH : W.heap.size = H)
    (hl : off + len ≤ l.length) (h8 : len ≤ 8) (hc : len ≤ cap) (h0 : 0 ≤ n) (h1 : n ≤ 18446744073709551615) (hs : l.length ≤ 1000000) :
    Calls Try.prog 156 #[.slice (some ⟨H, off, none⟩) len cap, .int .u64 n] (W.alloc (.cells (bvs l).toArray T)) fun e w' => e = .returned (.tuple #[]) ∧ W.alloc (.cells (bvs (putC l off len n len)).toArray T) = w' := by
  subst hH
  have := hput_any T l W.heap.size off len cap n (W.alloc (.cells (bvs l).toArray T)) (heap_alloc_last _ _) hl h8 hc h0 h1 hs
  rwa [World.setRow_alloc_new] at this

def z24 : List UInt8 := [0, 0, 0, 0, 0, 0, 0, 0, 0, 0, 0, 0, 0, 0, 0, 0, 0, 0, 0, 0, 0, 0, 0, 0]
/-- The 16 bytes ahead of the sum. -/
def head16 (s i g : Int) : List UInt8 := beN 1 4 ++ beN s 4 ++ beN i 4 ++ beN g 4
/-- A handle's bytes. -/
def hbytes (s i g : Int) : List UInt8 := head16 s i g ++ beN (fnv (head16 s i g)) 8
theorem head16_length (s i g : Int) : (head16 s i g).length = 16 := by simp [head16, beN_length]
theorem hbytes_length (s i g : Int) : (hbytes s i g).length = 24 := by simp [hbytes, head16_length, beN_length]

theorem head_puts (s i g : Int) : putC (putC (putC (putC z24 0 4 1 4) 4 4 s 4) 8 4 i 4) 12 4 g 4 = head16 s i g ++ [0, 0, 0, 0, 0, 0, 0, 0] := rfl
theorem all_puts (s i g n : Int) : putC (head16 s i g ++ [0, 0, 0, 0, 0, 0, 0, 0]) 16 8 n 8 = head16 s i g ++ beN n 8 := rfl
theorem info24 : (Try.prog.info? 206).map (·.size) = some 24 := by kernel_rfl

set_option maxHeartbeats 400000 in
theorem hwrite_any (s i g : Int) (hs0 : 0 ≤ s) (hs1 : s ≤ 2147483647) (hi0 : 0 ≤ i) (hi1 : i ≤ 2147483647) (hg0 : 0 ≤ g) (hg1 : g ≤ 2147483647) (w : World) :
    Calls Try.prog 141 #[hv s i g] w fun e w' => e = .returned (.agg (bvs (hbytes s i g)).toArray) ∧ Below w.heap.size w w' := by
  unfold hv
  have i0 : ∀ w, (Instr.index 214 (.agg #[.int .i64 1, .int .i64 s, .int .i64 i, .int .i64 g]) (.int .i64 0)).run Try.prog w = .ok (.int .i64 1) w := fun _ => by kernel_rfl
  have i1 : ∀ w, (Instr.index 214 (.agg #[.int .i64 1, .int .i64 s, .int .i64 i, .int .i64 g]) (.int .i64 1)).run Try.prog w = .ok (.int .i64 s) w := fun _ => by kernel_rfl
  have i2 : ∀ w, (Instr.index 214 (.agg #[.int .i64 1, .int .i64 s, .int .i64 i, .int .i64 g]) (.int .i64 2)).run Try.prog w = .ok (.int .i64 i) w := fun _ => by kernel_rfl
  have i3 : ∀ w, (Instr.index 214 (.agg #[.int .i64 1, .int .i64 s, .int .i64 i, .int .i64 g]) (.int .i64 3)).run Try.prog w = .ok (.int .i64 g) w := fun _ => by kernel_rfl
  go_enter Try.func141, Try.ntmps141
  go_wp2
  refine wp_loop_rounds 5 ?_
  rw [rounds_succ]
  go_wp2_with fail
  refine (put_top z24 0 4 24 1 _ (by simp) (by decide) (by decide) (by decide) (by decide) (by decide) (by decide)).mono ?_
  rintro e w' ⟨rfl, rfl⟩
  obtain ⟨L1, h1⟩ : ∃ L, L = putC z24 0 4 1 4 := ⟨_, rfl⟩
  have H1 := Lib.hid h1
  have l1 : L1.length = 24 := by rw [h1, putC_length _ (by decide) (by decide)]; rfl
  rw [← h1]
  clear h1
  go_wp2_with fail
  rw [rounds_succ]
  go_wp2_with fail
  refine (put_top L1 4 4 20 s _ (by simp) (by omega) (by decide) (by decide) hs0 (by omega) (by omega)).mono ?_
  rintro e w' ⟨rfl, rfl⟩
  obtain ⟨L2, h2⟩ : ∃ L, L = putC L1 4 4 s 4 := ⟨_, rfl⟩
  have H2 := Lib.hid h2
  have l2 : L2.length = 24 := by rw [h2, putC_length _ (by omega) (by decide)]; exact l1
  rw [← h2]
  clear h2
  go_wp2_with fail
  rw [rounds_succ]
  go_wp2_with fail
  refine (put_top L2 8 4 16 i _ (by simp) (by omega) (by decide) (by decide) hi0 (by omega) (by omega)).mono ?_
  rintro e w' ⟨rfl, rfl⟩
  obtain ⟨L3, h3⟩ : ∃ L, L = putC L2 8 4 i 4 := ⟨_, rfl⟩
  have H3 := Lib.hid h3
  have l3 : L3.length = 24 := by rw [h3, putC_length _ (by omega) (by decide)]; exact l2
  rw [← h3]
  clear h3
  go_wp2_with fail
  rw [rounds_succ]
  go_wp2_with fail
  refine (put_top L3 12 4 12 g _ (by simp) (by omega) (by decide) (by decide) hg0 (by omega) (by omega)).mono ?_
  rintro e w' ⟨rfl, rfl⟩
  have h4 : putC L3 12 4 g 4 = head16 s i g ++ [0, 0, 0, 0, 0, 0, 0, 0] := by rw [H3.out, H2.out, H1.out]; exact head_puts s i g
  rw [h4]
  clear H1 H2 H3 l1 l2 l3 h4 i0 i1 i2 i3
  go_wp2_with fail
  rw [rounds_succ]
  go_wp2_with fail
  have hz : ((w.alloc (.cells #[.int .i64 s, .int .i64 i, .int .i64 g] 32)).alloc (.cells (bvs z24).toArray 206)).heap.size = w.heap.size + 2 := by simp
  change Code.wp _ _ _ _ (((w.alloc (.cells #[.int .i64 s, .int .i64 i, .int .i64 g] 32)).alloc (.cells (bvs z24).toArray 206)).alloc _)
  have hB : Below w.heap.size w ((w.alloc (.cells #[.int .i64 s, .int .i64 i, .int .i64 g] 32)).alloc (.cells (bvs z24).toArray 206)) := by (repeat' (first | (with_reducible assumption) | (with_reducible exact Below.refl _ _) | (with_reducible refine below_sc ?_ ?_) | ((with_reducible show (_ : Nat) ≤ _); omega) | refine Below.setCell ?_ (by first | omega | (simp; done) | (simp; omega)) _ | refine Below.alloc ?_ (by first | omega | (simp; done) | (simp; omega)) _ | refine Below.drew ?_ | refine below_drewN ?_ _ | refine Below.trans ?_ (Below.mono (by assumption) (by first | omega | (simp; done) | (simp; omega)))))
  have hr : ((w.alloc (.cells #[.int .i64 s, .int .i64 i, .int .i64 g] 32)).alloc (.cells (bvs z24).toArray 206)).heap[w.heap.size + 1]? = some (.cells (bvs z24).toArray 206 (0, 0)) := heap_alloc2_new _ _ _
  generalize (w.alloc (.cells #[.int .i64 s, .int .i64 i, .int .i64 g] 32)).alloc (.cells (bvs z24).toArray 206) = W at *
  generalize hW : W.alloc (.cells (bvs (head16 s i g ++ [0, 0, 0, 0, 0, 0, 0, 0])).toArray 206) = W3
  have hz3 : w.heap.size + 3 ≤ W3.heap.size := by rw [← hW]; simp; omega
  have hb3 : W3.heap[w.heap.size + 1 + 1]? = some (.cells (bvs (head16 s i g ++ [0, 0, 0, 0, 0, 0, 0, 0])).toArray 206 (0, 0)) := by rw [← hW, ← hz]; exact heap_alloc_last _ _
  have hr3 : W3.heap[w.heap.size + 1]? = some (.cells (bvs z24).toArray 206 (0, 0)) := by rw [← hW, Below.heap_alloc _ _ _ (by omega)]; exact hr
  have hB3 : Below w.heap.size w W3 := by rw [← hW]; exact hB.alloc (by omega) _
  clear hW hz hr hB
  have hsz : (head16 s i g ++ [0, 0, 0, 0, 0, 0, 0, 0]).length = 24 := by simp [head16_length]
  have hld : ∀ w', (∃ e : ExtOf (w.heap.size + 3) W3, w' = e.val) → (Instr.loadAt 206 (.pointer (some ⟨w.heap.size + 1 + 1, 0, none⟩))).run Try.prog w' = .ok (.agg (bvs (head16 s i g ++ [0, 0, 0, 0, 0, 0, 0, 0])).toArray) w' := by
    rintro _ ⟨e, rfl⟩
    exact loadAt_row ((e.ok.block _ (by omega)).trans hb3) Try.underlying206 (by rw [info24, bvs_size, hsz])
  have Hld := Lib.hid hld
  clear hld
  have Hb := Lib.hid hb3
  have Hr := Lib.hid hr3
  clear hb3 hr3
  refine wp_region_ext_tail (w.heap.size + 3) 3 (by kernel_rfl) (by kernel_rfl) ?_
  simp only [List.take_succ_cons, List.take_zero, List.drop_succ_cons, List.drop_zero]
  repeat (first | (go_big_quiet_want; refine quiet_ld 206 (.tmp 3) rfl Hld.out ?_; go_simp; go_big_quiet_on) | go_big_quiet_step ((go_at_call 157; exact ext_of hz3 (hsum_any _ hsz _))))
  refine wpQuiet_nil ?_
  rintro W4 ⟨⟨_, hB4⟩, rfl⟩
  have hb4 := (hB4.block (w.heap.size + 1 + 1) (by omega)).trans Hb.out
  have hr4 := (hB4.block (w.heap.size + 1) (by omega)).trans Hr.out
  have hB4 := hB3.trans (hB4.mono (by omega))
  have Hb4 := Lib.hid hb4
  have Hr4 := Lib.hid hr4
  have e16 : (head16 s i g ++ [0, 0, 0, 0, 0, 0, 0, 0]).take 16 = head16 s i g := by rw [List.take_left' (head16_length _ _ _)]
  have hf := fnv_bd (head16 s i g)
  rw [e16]
  clear hb4 hr4 Hb Hr Hld hB3 e16
  go_wp2_with fail
  refine (hput_any _ _ _ 16 8 8 _ _ Hb4.out (by omega) (by decide) (by decide) hf.1 hf.2 (by omega)).mono ?_
  rintro e w' ⟨rfl, rfl⟩
  rw [all_puts]
  have hb5 := setRow_heap W4 _ _ (bvs (head16 s i g ++ beN (fnv (head16 s i g)) 8)).toArray _ _ Hb4.out
  have hr5 : (W4.setRow (w.heap.size + 1 + 1) (bvs (head16 s i g ++ beN (fnv (head16 s i g)) 8)).toArray).heap[w.heap.size + 1]? = _ := (setRow_other W4 _ _ _ (by omega)).trans Hr4.out
  have hB5 := below_setRow hB4 (g := w.heap.size + 1 + 1) (by omega) (bvs (head16 s i g ++ beN (fnv (head16 s i g)) 8)).toArray
  have hl5 : (head16 s i g ++ beN (fnv (head16 s i g)) 8).length = 24 := hbytes_length s i g
  generalize W4.setRow (w.heap.size + 1 + 1) (bvs (head16 s i g ++ beN (fnv (head16 s i g)) 8)).toArray = W5 at *
  have hld : (Instr.loadAt 206 (.pointer (some ⟨w.heap.size + 1 + 1, 0, none⟩))).run Try.prog W5 = .ok (.agg (bvs (head16 s i g ++ beN (fnv (head16 s i g)) 8)).toArray) W5 :=
    loadAt_row hb5 Try.underlying206 (by rw [info24, bvs_size, hl5])
  have hst : (Instr.storeAt 206 (.pointer (some ⟨w.heap.size + 1, 0, none⟩)) (.agg (bvs (head16 s i g ++ beN (fnv (head16 s i g)) 8)).toArray)).run Try.prog W5 = .ok () (W5.setRow (w.heap.size + 1) (bvs (head16 s i g ++ beN (fnv (head16 s i g)) 8)).toArray) :=
    storeAt_row hr5 (by rw [info24, bvs_size, hl5]) (by rw [bvs_size, bvs_size, hl5]; rfl) (oneCells _)
  have Hld := Lib.hid hld
  have Hst := Lib.hid hst
  have hr6 := setRow_heap W5 _ _ (bvs (head16 s i g ++ beN (fnv (head16 s i g)) 8)).toArray _ _ hr5
  have hB6 := below_setRow hB5 (g := w.heap.size + 1) (by omega) (bvs (head16 s i g ++ beN (fnv (head16 s i g)) 8)).toArray
  have Hr6 := Lib.hid hr6
  clear hr6 hb5 hr5 Hb4 Hr4 hld hst
  go_wp2_with (first | (refine wpList_ld rfl 206 (.tmp 3) rfl Hld.out ?_; simp only [Act.put]) | (refine wpList_st rfl 206 (.tmp 2) (.tmp 31) rfl Hst.out ?_; simp only [Act.put]))

  refine bodyPost_ret (v := .agg (bvs (hbytes s i g)).toArray) (results_cell_row Try.results141 _ _ _ _ _ _ _ rfl Hr6.out Try.underlying206 rfl (by rw [info24, bvs_size, hbytes_length])) rfl ⟨rfl, hB6⟩
end Go.Proofs.Yteahlnoonmfjhaa
